/- Contracts by hand: a table's New, none, Len, When, Has, Idle. -/
import Derived.Outline
import Derived.Lib.Hide
import Derived.BigRegion
import Derived.Deep.RegionLaw
import Derived.Maps.OwnOps
import Derived.RangeFuncRecord
import Derived.Test.YtafndajnncfpkaaTM
import Derived.Test.YtafndajnncfpkaaWLast
import Derived.Test.YtafndajnncfpkaaWMore
namespace Go.Proofs.Ytafndajnncfpkaa.Tb
open Go Go.RowKit Go.Maps Go.Proofs.YtafndajnncfpkaaW.PrintWords Go.Proofs.YtafndajnncfpkaaW.PrintLast Go.Proofs.YtafndajnncfpkaaW.PrintMore Go.Proofs.Ytafndajnncfpkaa.Mp Go.Proofs.Ytafndajnncfpkaa.Tm
attribute [local go_sem] max2_int min2_int max_two min_two
set_option linter.unusedVariables false
set_option linter.unusedSimpArgs false

theorem none_nil (w : World) : Calls Try.prog 25 #[.pointer none] w fun e w' => e = .returned (.bool true) ∧ w = w' := by
  go_enter Try.func25, Try.ntmps25
  go_wp2
  go_ret
  exact ⟨rfl, rfl⟩
set_option maxRecDepth 100000 in
set_option maxHeartbeats 1000000 in
theorem none_at (T : Nat) (most : Int) (w : World) (h : w.cell? ⟨T, 0, none⟩ = some (.int .i64 most)) : Calls Try.prog 25 #[.pointer (some ⟨T, 0, none⟩)] w fun e w' => e = .returned (.bool (most == 0)) ∧ w = w' := by
  cases hm : (most == 0)
  all_goals
    go_enter Try.func25, Try.ntmps25
    go_wp2
    go_ret
    exact ⟨rfl, rfl⟩
set_option maxRecDepth 100000 in
set_option maxHeartbeats 1000000 in
theorem new_ok (most : Int) (w : World) (h1 : 1 ≤ most) (h2 : most ≤ 1024) : Calls Try.prog 10 #[.int .i64 most] w fun e w' => ∃ T b : Nat, e = .returned (.tuple #[.pointer (some ⟨T, 0, none⟩), .int .i64 0]) ∧ TabAt w' T b 0 most [] ∧ w.heap.size ≤ T ∧ w.heap.size ≤ b ∧ Below w.heap.size w w' := by
  have hmm := @run_makeMap Try.prog
  go_enter Try.func10, Try.ntmps10
  go_wp2
  go_ret2
  refine ⟨w.heap.size + 1, w.heap.size, rfl, ⟨?_, ?_⟩, Nat.le_succ _, Nat.le_refl _, ((Below.refl _ _).alloc (Nat.le_refl _) _).alloc (by simp) _⟩
  · have := World.alloc_heap_new (w.alloc (.map #[] 0)) (.cells #[.int .i64 most, .map (some w.heap.size)] 54)
    rwa [World.size_alloc] at this
  · exact (MapT.made w _ _ _ _).alloc _
set_option maxRecDepth 100000 in
set_option maxHeartbeats 1000000 in
theorem new_bad (most : Int) (w : World) (h : most < 1 ∨ 1024 < most) : Calls Try.prog 10 #[.int .i64 most] w fun e w' => e = .returned (.tuple #[.pointer none, .int .i64 2]) ∧ w = w' := by
  by_cases h1 : most < 1
  · have h1' : decide (most < 1) = true := decide_eq_true h1
    go_enter Try.func10, Try.ntmps10
    go_wp2
    go_ret2
    exact ⟨rfl, rfl⟩
  · have h1' : decide (most < 1) = false := decide_eq_false h1
    have h2 : 1024 < most := by omega
    have h2' : decide (1024 < most) = true := decide_eq_true h2
    go_enter Try.func10, Try.ntmps10
    go_wp2
    go_ret2
    exact ⟨rfl, rfl⟩
set_option maxRecDepth 100000 in
set_option maxHeartbeats 1000000 in
theorem len_at (T b n : Nat) (most : Int) (L : List Cl) (w : World) (h : TabAt w T b n most L) (hL : WfL L) (hm : most ≠ 0) : Calls Try.prog 13 #[.pointer (some ⟨T, 0, none⟩)] w fun e w' => e = .returned (.int .i64 (L.length : Int)) ∧ w = w' := by
  obtain ⟨c0, c1⟩ := h.cells
  obtain ⟨D, hD, _, hs⟩ := h.2.data hL
  have HD := Lib.hid hD
  have HS := Lib.hid hs
  have hm' : (most == 0) = false := beq_eq_false_iff_ne.2 hm
  clear h hD hs
  go_enter Try.func13, Try.ntmps13
  go_wp2_with (first | (go_at_call 25; (with_reducible refine (none_at T most _ c0).mono ?_); rintro e w' ⟨rfl, rfl⟩) | (at_len; (refine wpList_len_own _ rfl _ _ rfl 3 62 Try.underlying52 heldR b n D rfl HD.out ?_); rw [HS.out]))
  go_ret
  exact ⟨rfl, rfl⟩
/-- What When tells. -/
def whenV (x : Option (Int × Bool)) : Int := match x with | some c => c.1 | none => 0
theorem look_tuple (x : Option (Int × Bool)) : (match x with | some v => encC v | none => (.agg #[.int .i64 0, .bool false] : Value)) = .agg #[.int .i64 (whenV x), .bool (match x with | some c => c.2 | none => false)] := by
  cases x <;> rfl
set_option maxRecDepth 100000 in
set_option maxHeartbeats 1000000 in
theorem when_at (T b n : Nat) (most : Int) (L : List Cl) (k : Int) (w : World) (h : TabAt w T b n most L) (hm : most ≠ 0) (hk : wfI k) : Calls Try.prog 17 #[.pointer (some ⟨T, 0, none⟩), .int .i64 k] w fun e w' => e = .returned (.tuple #[.int .i64 (whenV (tabF L k)), .bool (tabF L k).isSome]) ∧ Below w.heap.size w w' := by
  obtain ⟨c0, c1⟩ := h.cells
  have HM := h.2
  have HK := Lib.hid (show (keyOf Try.prog 3 ((Value.int .i64) k)).isSome = true from by rw [keyZ hk]; rfl)
  have hm' : (most == 0) = false := beq_eq_false_iff_ne.2 hm
  cases hx : tabF L k
  all_goals
    have HX := Lib.hid hx
    clear hx
    try clear h
    go_enter Try.func17, Try.ntmps17
    go_wp2_with (first | (go_at_call 25; (with_reducible refine (none_at T most _ c0).mono ?_); rintro e w' ⟨rfl, rfl⟩) | (at_lookup; (refine wpList_look _ rfl _ _ 52 rfl HM keyedI Try.underlying52 (zeroC _) rfl k rfl HK.out ?_); rw [HX.out]; (try simp only [encC])))
    go_ret2
    exact ⟨rfl, (Below.refl _ _).alloc (Nat.le_refl _) _⟩
set_option maxRecDepth 100000 in
set_option maxHeartbeats 1000000 in
theorem when_nil (k : Int) (w : World) : Calls Try.prog 17 #[.pointer none, .int .i64 k] w fun e w' => e = .returned (.tuple #[.int .i64 0, .bool false]) ∧ Below w.heap.size w w' := by
  go_enter Try.func17, Try.ntmps17
  go_wp2_with (first | (go_at_call 25; (with_reducible refine (none_nil _).mono ?_); rintro e w' ⟨rfl, rfl⟩))
  go_ret2
  exact ⟨rfl, Below.refl _ _⟩
set_option maxRecDepth 100000 in
set_option maxHeartbeats 1000000 in
theorem has_at (T b n : Nat) (most : Int) (L : List Cl) (k : Int) (w : World) (h : TabAt w T b n most L) (hm : most ≠ 0) (hk : wfI k) : Calls Try.prog 19 #[.pointer (some ⟨T, 0, none⟩), .int .i64 k] w fun e w' => e = .returned (.bool (tabF L k).isSome) ∧ Below w.heap.size w w' := by
  have H := Lib.hid h
  clear h
  go_enter Try.func19, Try.ntmps19
  go_wp2_with (first | (go_at_call 17; (with_reducible refine (when_at T b n most L k _ H.out hm hk).mono ?_); rintro e w' ⟨rfl, hb⟩))
  go_ret
  exact ⟨rfl, hb⟩
end Go.Proofs.Ytafndajnncfpkaa.Tb
