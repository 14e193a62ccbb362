/- TableKnown. -/
import Derived.Test.YtafndajnncfpkaaTQ
namespace Go.Proofs.Ytafndajnncfpkaa.Tv
open Go Go.RowKit Go.Maps Go.Sort Go.Shelf Go.Proofs.YtafndajnncfpkaaW.PrintWords Go.Proofs.YtafndajnncfpkaaW.PrintLast Go.Proofs.YtafndajnncfpkaaW.PrintMore Go.Proofs.Ytafndajnncfpkaa.Mp Go.Proofs.Ytafndajnncfpkaa.Tm Go.Proofs.Ytafndajnncfpkaa.Tb Go.Proofs.Ytafndajnncfpkaa.Tc Go.Proofs.Ytafndajnncfpkaa.Ta Go.Proofs.Ytafndajnncfpkaa.Tg Go.Proofs.Ytafndajnncfpkaa.Ts Go.Proofs.Ytafndajnncfpkaa.Tz Go.Proofs.Ytafndajnncfpkaa.Tq
set_option linter.unusedVariables false
set_option linter.unusedSimpArgs false
theorem same_intsN (n1 n2 : Nat) (A1 A2 : Option Addr) (c1 c2 : Nat) (l1 l2 : List Int) (w : World) (e1 : n1 = l1.length) (e2 : n2 = l2.length) (h1 : IntsAt w A1 l1) (h2 : IntsAt w A2 l2) (b1 : l1.length ≤ maxLen) (b2 : l2.length ≤ maxLen) : Calls Try.prog 21 #[.slice A1 n1 c1, .slice A2 n2 c2] w fun e w' => e = .returned (.bool (decide (l1 = l2))) ∧ ∃ q, w' = w.drewN q := by
  subst e1 e2
  exact same_ints A1 A2 c1 c2 l1 l2 w h1 h2 b1 b2
theorem ints_row {w : World} {base : Nat} {e : TypeId} {A : Option Addr} {n c : Nat} {l : List Int} (h : w.ownsRow base e 1 (.slice A n c) n (l.map encZ)) : IntsAt w A l := by
  intro j hj
  have hl : l.length = n := by have := h.1; rw [List.length_map] at this; omega
  rcases h.2 with ⟨_, h0⟩ | ⟨g, cap, cur, hv, _⟩
  · omega
  · injection hv with hA _ hc
    subst hA hc
    exact ⟨_, rfl, h.cells rfl j _ (by rw [List.getElem?_map, List.getElem?_eq_getElem hj]; rfl)⟩
theorem ints_below {W w w1 : World} {A : Option Addr} {l : List Int} (h : IntsAt w A l) (hB : Below w.heap.size w w1) : IntsAt w1 A l := by
  intro j hj
  obtain ⟨ad, rfl, hc⟩ := h j hj
  exact ⟨ad, rfl, (hB.cell (World.block_lt_of_cell? _ _ hc)).trans hc⟩
theorem row_some {w : World} {base : Nat} {e : TypeId} {v : Value} {xs : List Value} (h : w.ownsRow base e 1 v 2 xs) : ∃ g cap, v = .slice (some ⟨g, 0, none⟩) 2 cap := by
  rcases h.2 with ⟨_, h0⟩ | ⟨g, cap, cur, hv, _⟩
  · omega
  · exact ⟨g, cap, hv⟩
theorem ints_alloc {w : World} {A : Option Addr} {l : List Int} (h : IntsAt w A l) (o : Obj) : IntsAt (w.alloc o) A l := ints_below (W := w) h ((Below.refl _ _).alloc (Nat.le_refl _) _)
theorem ints_two (w : World) (t : TypeId) : IntsAt (w.alloc (.cells #[.int .i64 4, .int .i64 5] t)) (some ⟨w.heap.size, 0, none⟩) [4, 5] :=
  ints_row (base := 0) (e := t) (n := 2) (c := 2) (l := [4, 5]) (World.ownsRow_lit (e := t) (size := 1) w #[.int .i64 4, .int .i64 5] 2 (Nat.zero_le _) (by unfold maxLen; omega) rfl)
theorem same45 (g cap : Nat) (w : World) (h : IntsAt w (some ⟨g, 0, none⟩) [4, 5]) : Calls Try.prog 21 #[.slice (some ⟨g, 0, none⟩) 2 cap, .slice (some ⟨w.heap.size, 0, none⟩) 2 2] (w.alloc (.cells #[.int .i64 4, .int .i64 5] 3)) fun e w' => e = .returned (.bool true) ∧ ∃ q, w' = (w.alloc (.cells #[.int .i64 4, .int .i64 5] 3)).drewN q := by
  have c := same_intsN 2 2 (some ⟨g, 0, none⟩) (some ⟨w.heap.size, 0, none⟩) cap 2 [4, 5] [4, 5] _ rfl rfl (ints_alloc h (.cells #[.int .i64 4, .int .i64 5] 3)) (ints_two _ _) (by unfold maxLen; simp) (by unfold maxLen; simp)
  refine c.mono ?_
  rintro e w' ⟨rfl, hq⟩
  exact ⟨congrArg (fun b => Ending.returned (.bool b)) (decide_eq_true rfl), hq⟩
theorem below_drewN'' {B : Nat} {a w : World} (h : Below B a w) (q : Nat) : Below B a (w.drewN q) := ⟨h.os, h.tape, h.output, h.size, h.block⟩
set_option maxRecDepth 100000 in
set_option maxHeartbeats 2000000 in
theorem known (w : World) : Calls Try.prog 6 #[] w fun e w' => e = .returned (.bool true) ∧ Below w.heap.size w w' := by
  have f0 : touchV 2 ([] : List Cl) 5 (10) = (0, false, 0) := by decide +kernel
  have f1 : touchV 2 (touchS 2 ([] : List Cl) 5 (10)) 3 (12) = (0, false, 0) := by decide +kernel
  have f2 : idleV (touchS 2 (touchS 2 ([] : List Cl) 5 (10)) 3 (12)) 5 = 0 := by decide +kernel
  have f3 : idleV (idleS (touchS 2 (touchS 2 ([] : List Cl) 5 (10)) 3 (12)) 5 true) 3 = 0 := by decide +kernel
  have f4 : touchV 2 (idleS (idleS (touchS 2 (touchS 2 ([] : List Cl) 5 (10)) 3 (12)) 5 true) 3 true) 5 (14) = (0, false, 0) := by decide +kernel
  have f5 : touchV 2 (touchS 2 (idleS (idleS (touchS 2 (touchS 2 ([] : List Cl) 5 (10)) 3 (12)) 5 true) 3 true) 5 (14)) 4 (15) = (3, true, 0) := by decide +kernel
  have fa : sortL (touchS 2 (touchS 2 (idleS (idleS (touchS 2 (touchS 2 ([] : List Cl) 5 (10)) 3 (12)) 5 true) 3 true) 5 (14)) 4 (15)) = [4, 5] := by
    rw [sortL, show (touchS 2 (touchS 2 (idleS (idleS (touchS 2 (touchS 2 ([] : List Cl) 5 (10)) 3 (12)) 5 true) 3 true) 5 (14)) 4 (15)).map (·.1) = [4, 5] by decide +kernel]
    exact List.mergeSort_of_pairwise (by decide)
  have fb : (touchS 2 (touchS 2 (idleS (idleS (touchS 2 (touchS 2 ([] : List Cl) 5 (10)) 3 (12)) 5 true) 3 true) 5 (14)) 4 (15)).length = 2 := by decide +kernel
  have f6 : touchV 2 (touchS 2 (touchS 2 (idleS (idleS (touchS 2 (touchS 2 ([] : List Cl) 5 (10)) 3 (12)) 5 true) 3 true) 5 (14)) 4 (15)) 9 (15) = (5, true, 0) := by decide +kernel
  have gw : atOf (touchS 2 (touchS 2 (touchS 2 (idleS (idleS (touchS 2 (touchS 2 ([] : List Cl) 5 (10)) 3 (12)) 5 true) 3 true) 5 (14)) 4 (15)) 9 (15)) 9 = 15 := by decide +kernel
  have gh : (tabF (touchS 2 (touchS 2 (touchS 2 (idleS (idleS (touchS 2 (touchS 2 ([] : List Cl) 5 (10)) 3 (12)) 5 true) 3 true) 5 (14)) 4 (15)) 9 (15)) 5).isSome = false := by decide +kernel
  have f7 : idleV (touchS 2 (touchS 2 (touchS 2 (idleS (idleS (touchS 2 (touchS 2 ([] : List Cl) 5 (10)) 3 (12)) 5 true) 3 true) 5 (14)) 4 (15)) 9 (15)) 7 = 6 := by decide +kernel
  have f8 : touchV 2 (idleS (touchS 2 (touchS 2 (touchS 2 (idleS (idleS (touchS 2 (touchS 2 ([] : List Cl) 5 (10)) 3 (12)) 5 true) 3 true) 5 (14)) 4 (15)) 9 (15)) 7 true) 9 (2) = (0, false, 0) := by decide +kernel
  have gw2 : atOf (touchS 2 (idleS (touchS 2 (touchS 2 (touchS 2 (idleS (idleS (touchS 2 (touchS 2 ([] : List Cl) 5 (10)) 3 (12)) 5 true) 3 true) 5 (14)) 4 (15)) 9 (15)) 7 true) 9 (2)) 9 = 15 := by decide +kernel
  have f9 : touchV 2 (touchS 2 (idleS (touchS 2 (touchS 2 (touchS 2 (idleS (idleS (touchS 2 (touchS 2 ([] : List Cl) 5 (10)) 3 (12)) 5 true) 3 true) 5 (14)) 4 (15)) 9 (15)) 7 true) 9 (2)) 9 (-1) = (0, false, 2) := by decide +kernel
  have gx : (tabF (touchS 2 (touchS 2 (touchS 2 (idleS (idleS (touchS 2 (touchS 2 ([] : List Cl) 5 (10)) 3 (12)) 5 true) 3 true) 5 (14)) 4 (15)) 9 (15)) 9).isSome = true := by decide +kernel
  have gy : (tabF (touchS 2 (idleS (touchS 2 (touchS 2 (touchS 2 (idleS (idleS (touchS 2 (touchS 2 ([] : List Cl) 5 (10)) 3 (12)) 5 true) 3 true) 5 (14)) 4 (15)) 9 (15)) 7 true) 9 (2)) 9).isSome = true := by decide +kernel
  generalize hL1 : touchS 2 ([] : List Cl) 5 (10) = L1 at *
  generalize hL2 : touchS 2 L1 3 (12) = L2 at *
  generalize hL3 : idleS L2 5 true = L3 at *
  generalize hL4 : idleS L3 3 true = L4 at *
  generalize hL5 : touchS 2 L4 5 (14) = L5 at *
  generalize hL6 : touchS 2 L5 4 (15) = L6 at *
  generalize hL7 : touchS 2 L6 9 (15) = L7 at *
  generalize hL8 : idleS L7 7 true = L8 at *
  generalize hL9 : touchS 2 L8 9 (2) = L9 at *
  generalize hL10 : touchS 2 L9 9 (-1) = L10 at *
  have HL1 := Lib.hid hL1
  clear hL1
  have HL2 := Lib.hid hL2
  clear hL2
  have HL3 := Lib.hid hL3
  clear hL3
  have HL4 := Lib.hid hL4
  clear hL4
  have HL5 := Lib.hid hL5
  clear hL5
  have HL6 := Lib.hid hL6
  clear hL6
  have HL7 := Lib.hid hL7
  clear hL7
  have HL8 := Lib.hid hL8
  clear hL8
  have HL9 := Lib.hid hL9
  clear hL9
  have HL10 := Lib.hid hL10
  clear hL10
  go_enter Try.func6, Try.ntmps6
  go_wp2_with (first
    | (go_at_call 10; (with_reducible refine (new_st 2 _ (by omega) (by omega)).mono ?_); rintro e w1 ⟨T, b, rfl, h0, hT, hb, hB⟩; have HT0 := Lib.hid h0; have HB0 := Lib.hid hB; clear h0 hB)
    | (go_at_call 10; (with_reducible refine (new_bad 0 _ (by omega)).mono ?_); rintro e w1 ⟨rfl, rfl⟩)
    | (go_at_call 11; (with_reducible refine (touch_st HT0.out 5 (10) (wfS _ (by omega)) (small _ (by omega))).mono ?_); rintro e w2 ⟨rfl, ht, hg⟩; rw [f0]; rw [HL1.out] at ht; have HT1 := Lib.hid ht; have HB1 := Lib.hid (below_row HB0.out hg hb); clear ht hg)
    | (go_at_call 11; (with_reducible refine (touch_st HT1.out 3 (12) (wfS _ (by omega)) (small _ (by omega))).mono ?_); rintro e w2 ⟨rfl, ht, hg⟩; rw [f1]; rw [HL2.out] at ht; have HT2 := Lib.hid ht; have HB2 := Lib.hid (below_row HB1.out hg hb); clear ht hg)
    | (go_at_call 12; (with_reducible refine (idle_st HT2.out 5 true (wfS _ (by omega)) (small _ (by omega))).mono ?_); rintro e w2 ⟨rfl, ht, hg⟩; rw [f2]; rw [HL3.out] at ht; have HT3 := Lib.hid ht; have HB3 := Lib.hid (below_row HB2.out hg hb); clear ht hg)
    | (go_at_call 12; (with_reducible refine (idle_st HT3.out 3 true (wfS _ (by omega)) (small _ (by omega))).mono ?_); rintro e w2 ⟨rfl, ht, hg⟩; rw [f3]; rw [HL4.out] at ht; have HT4 := Lib.hid ht; have HB4 := Lib.hid (below_row HB3.out hg hb); clear ht hg)
    | (go_at_call 11; (with_reducible refine (touch_st HT4.out 5 (14) (wfS _ (by omega)) (small _ (by omega))).mono ?_); rintro e w2 ⟨rfl, ht, hg⟩; rw [f4]; rw [HL5.out] at ht; have HT5 := Lib.hid ht; have HB5 := Lib.hid (below_row HB4.out hg hb); clear ht hg)
    | (go_at_call 11; (with_reducible refine (touch_st HT5.out 4 (15) (wfS _ (by omega)) (small _ (by omega))).mono ?_); rintro e w2 ⟨rfl, ht, hg⟩; rw [f5]; rw [HL6.out] at ht; have HT6 := Lib.hid ht; have HB6 := Lib.hid (below_row HB5.out hg hb); clear ht hg)
    | (go_at_call 20; (with_reducible refine (all_st HT6.out).mono ?_); rintro e w2 ⟨v, rfl, hrow, hnil, hB⟩; rw [fa, fb] at hrow; have HT6 := Lib.hid (HT6.out.below hB); have HB6 := Lib.hid (below_then HB6.out HB6.out.size hB); obtain ⟨g, cap, rfl⟩ := row_some hrow; have HI := Lib.hid (ints_row hrow); clear hB hrow hnil)
    | (go_at_call 21; (with_reducible refine (same45 g cap _ HI.out).mono ?_); rintro e w2 ⟨rfl, q, rfl⟩; have HT6 := Lib.hid ((HT6.out.alloc (.cells #[.int .i64 4, .int .i64 5] 3)).drewN q); have HB6 := Lib.hid (below_drewN'' (HB6.out.alloc HB6.out.size (.cells #[.int .i64 4, .int .i64 5] 3)) q))
    | (go_at_call 11; (with_reducible refine (touch_st HT6.out 9 (15) (wfS _ (by omega)) (small _ (by omega))).mono ?_); rintro e w2 ⟨rfl, ht, hg⟩; rw [f6]; rw [HL7.out] at ht; have HT7 := Lib.hid ht; have HB7 := Lib.hid (below_row HB6.out hg hb); clear ht hg)
    | (go_at_call 17; (with_reducible refine (when_st HT7.out 9 (wfS _ (by omega))).mono ?_); rintro e w2 ⟨rfl, hB⟩; rw [gw, gx]; have HT7 := Lib.hid (HT7.out.below hB); have HB7 := Lib.hid (below_then HB7.out HB7.out.size hB); clear hB)
    | (go_at_call 19; (with_reducible refine (has_st HT7.out 5 (wfS _ (by omega))).mono ?_); rintro e w2 ⟨rfl, hB⟩; rw [gh]; have HT7 := Lib.hid (HT7.out.below hB); have HB7 := Lib.hid (below_then HB7.out HB7.out.size hB); clear hB)
    | (go_at_call 12; (with_reducible refine (idle_st HT7.out 7 true (wfS _ (by omega)) (small _ (by omega))).mono ?_); rintro e w2 ⟨rfl, ht, hg⟩; rw [f7]; rw [HL8.out] at ht; have HT8 := Lib.hid ht; have HB8 := Lib.hid (below_row HB7.out hg hb); clear ht hg)
    | (go_at_call 11; (with_reducible refine (touch_st HT8.out 9 (2) (wfS _ (by omega)) (small _ (by omega))).mono ?_); rintro e w2 ⟨rfl, ht, hg⟩; rw [f8]; rw [HL9.out] at ht; have HT9 := Lib.hid ht; have HB9 := Lib.hid (below_row HB8.out hg hb); clear ht hg)
    | (go_at_call 17; (with_reducible refine (when_st HT9.out 9 (wfS _ (by omega))).mono ?_); rintro e w2 ⟨rfl, hB⟩; rw [gw2, gy]; have HT9 := Lib.hid (HT9.out.below hB); have HB9 := Lib.hid (below_then HB9.out HB9.out.size hB); clear hB)
    | (go_at_call 11; (with_reducible refine (touch_st HT9.out 9 (-1) (wfS _ (by omega)) (small _ (by omega))).mono ?_); rintro e w2 ⟨rfl, ht, hg⟩; rw [f9]; rw [HL10.out] at ht; have HT10 := Lib.hid ht; have HB10 := Lib.hid (below_row HB9.out hg hb); clear ht hg)
    | (go_at_call 8; (with_reducible refine (awake _).mono ?_); rintro e w2 ⟨rfl, hB⟩; have HBZ := Lib.hid (below_then HB10.out HB10.out.size hB)))
  go_ret
  exact ⟨rfl, HBZ.out⟩
end Go.Proofs.Ytafndajnncfpkaa.Tv
namespace Go.Proofs.Ytafndajnncfpkaa.PA
open Go Go.RowKit
theorem ostiarylaw20_TableKnown.calls (w : World) : Calls Try.prog 6 #[] w fun e w' => e = .returned (.bool true) ∧ Below w.heap.size w w' := Tv.known w
end Go.Proofs.Ytafndajnncfpkaa.PA
