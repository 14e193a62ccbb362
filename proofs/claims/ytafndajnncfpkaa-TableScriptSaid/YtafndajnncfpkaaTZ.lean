/- Contract by hand: ostiarylaw20.awake. -/
import Derived.Test.YtafndajnncfpkaaTS
namespace Go.Proofs.Ytafndajnncfpkaa.Tz
open Go Go.RowKit Go.Maps Go.Sort Go.Shelf Go.Proofs.YtafndajnncfpkaaW.PrintWords Go.Proofs.YtafndajnncfpkaaW.PrintLast Go.Proofs.YtafndajnncfpkaaW.PrintMore Go.Proofs.Ytafndajnncfpkaa.Mp Go.Proofs.Ytafndajnncfpkaa.Tm Go.Proofs.Ytafndajnncfpkaa.Tb Go.Proofs.Ytafndajnncfpkaa.Tg Go.Proofs.Ytafndajnncfpkaa.Ts
set_option linter.unusedVariables false
set_option linter.unusedSimpArgs false
theorem small (n : Nat) (h : n ≤ 100000) : n < maxLen := by unfold maxLen; omega
theorem wfS (k : Int) (h : -100000 ≤ k ∧ k ≤ 100000) : wfI k := (wfI_iff k).2 (by omega)
set_option maxRecDepth 100000 in
set_option maxHeartbeats 1000000 in
theorem awake (w : World) : Calls Try.prog 8 #[] w fun e w' => e = .returned (.bool true) ∧ Below w.heap.size w w' := by
  have e1 : touchV 2 [] 5 10 = (0, false, 0) := by decide
  have e2 : touchV 2 (touchS 2 [] 5 10) 3 12 = (0, false, 0) := by decide
  have e3 : touchV 2 (touchS 2 (touchS 2 [] 5 10) 3 12) 4 13 = (0, false, 8) := by decide
  have e4 : (touchS 2 (touchS 2 (touchS 2 [] 5 10) 3 12) 4 13).length = 2 := by decide
  generalize hL1 : touchS 2 [] 5 10 = L1 at *
  generalize hL2 : touchS 2 L1 3 12 = L2 at *
  generalize hL3 : touchS 2 L2 4 13 = L3 at *
  have HL1 := Lib.hid hL1
  have HL2 := Lib.hid hL2
  have HL3 := Lib.hid hL3
  clear hL1 hL2 hL3
  go_enter Try.func8, Try.ntmps8
  go_wp2_with (first
    | (go_at_call 10; refine (new_st 2 _ (by omega) (by omega)).mono ?_; rintro e w1 ⟨T, b, rfl, h0, hT, hb, hB⟩; have HT0 := Lib.hid h0; have HB1 := Lib.hid hB; clear h0 hB)
    | (go_at_call 11; (with_reducible refine (touch_st HT0.out 5 10 (wfS _ (by omega)) (small _ (by omega))).mono ?_); rintro e w2 ⟨rfl, ht, hg⟩; rw [e1]; rw [HL1.out] at ht; have HT1 := Lib.hid ht; have HB2 := Lib.hid (below_row HB1.out hg hb); clear ht hg)
    | (go_at_call 11; (with_reducible refine (touch_st HT1.out 3 12 (wfS _ (by omega)) (small _ (by omega))).mono ?_); rintro e w3 ⟨rfl, ht, hg⟩; rw [e2]; rw [HL2.out] at ht; have HT2 := Lib.hid ht; have HB3 := Lib.hid (below_row HB2.out hg hb); clear ht hg)
    | (go_at_call 11; (with_reducible refine (touch_st HT2.out 4 13 (wfS _ (by omega)) (small _ (by omega))).mono ?_); rintro e w4 ⟨rfl, ht, hg⟩; rw [e3]; rw [HL3.out] at ht; have HT3 := Lib.hid ht; have HB4 := Lib.hid (below_row HB3.out hg hb); clear ht hg)
    | (go_at_call 13; (with_reducible refine (len_st HT3.out).mono ?_); rintro e w5 ⟨rfl, rfl⟩; rw [e4]))
  go_ret
  exact ⟨rfl, HB4.out⟩
end Go.Proofs.Ytafndajnncfpkaa.Tz
