/- Contracts by hand: sets.Same. -/
import Derived.Outline
import Derived.Lib.Hide
import Derived.Deep.RegionHeld3
import Derived.Test.YtdkecfjeiookdaaTeSO
import Derived.Test.YtdkecfjeiookdaaTePAx28
namespace Go.Proofs.Ytdkecfjeiookdaa.PA
open Go.RowKit Go.Maps Go.Sort Go.Proofs.YtdkecfjeiookdaaW.PrintWords Go.Proofs.YtdkecfjeiookdaaW.PrintLast Go.Proofs.YtdkecfjeiookdaaW.PrintMore
set_option linter.unusedVariables false
set_option linter.unusedSimpArgs false

theorem below_grown_to {w A B : World} {row : Option Nat} (h : RowKit.Below w.heap.size w A) (hg : A.grownBy B row) (hne : ∀ k, row = some k → w.heap.size ≤ k) : RowKit.Below w.heap.size w B := h.grown hg h.size hne
def sets_Same.f (a0_0 : ByteArray) (a0_1 : Int) (a0_2 : Int) (a0_3 : Int) (l0_4 : List ByteArray) (a1_0 : ByteArray) (a1_1 : Int) (a1_2 : Int) (a1_3 : Int) (l1_4 : List ByteArray) : Option (Bool) :=
  if a0_1 = a1_1 ∧ a0_2 = a1_2 then (name_Same.f a0_0 a1_0).bind fun b => if b = true ∧ l0_4.length = l1_4.length then (if l0_4.length * 16 ≤ 140737488355328 then some (decide (sortT l0_4 = sortT l1_4)) else none) else some false
  else some false

set_option maxHeartbeats 4000000 in
set_option maxRecDepth 100000 in
theorem sets_Same.calls (a0_0 : ByteArray) (a0_1 : Int) (a0_2 : Int) (a0_3 : Int) (A0_4 : Option Addr) (c0_4 : Nat) (l0_4 : List ByteArray) (a1_0 : ByteArray) (a1_1 : Int) (a1_2 : Int) (a1_3 : Int) (A1_4 : Option Addr) (c1_4 : Nat) (l1_4 : List ByteArray) (r : Bool) (w : World) (hr0_4 : Kd.C Kd.string w A0_4 l0_4.length l0_4) (hc0_4 : l0_4.length ≤ c0_4) (hr1_4 : Kd.C Kd.string w A1_4 l1_4.length l1_4) (hc1_4 : l1_4.length ≤ c1_4) (h : sets_Same.f a0_0 a0_1 a0_2 a0_3 l0_4 a1_0 a1_1 a1_2 a1_3 l1_4 = some r) :
    Calls Try.prog 27 #[.agg #[.string a0_0, .int .i64 a0_1, .int .i64 a0_2, .int .i64 a0_3, .slice A0_4 l0_4.length c0_4], .agg #[.string a1_0, .int .i64 a1_1, .int .i64 a1_2, .int .i64 a1_3, .slice A1_4 l1_4.length c1_4]] w fun e w' => e = .returned (.bool r) ∧ Below w.heap.size w w' := by
  have HR0 := Aside0.mk hr0_4
  have HR1 := Aside0.mk hr1_4
  have HH := Aside0.mk h
  clear hr0_4 hr1_4 h
  go_enter Try.func27, Try.ntmps27
  go_upto_region 1 with fail
  have hX1 : ((w.alloc (.cells #[.string a0_0, .int .i64 a0_1, .int .i64 a0_2, .int .i64 a0_3, .slice A0_4 l0_4.length c0_4] 32)).alloc (.cells #[.string a1_0, .int .i64 a1_1, .int .i64 a1_2, .int .i64 a1_3, .slice A1_4 l1_4.length c1_4] 32)).heap[w.heap.size]? = _ := blk_alloc (World.alloc_heap_new w _) _
  have hY1 := World.alloc_heap_new (w.alloc (.cells #[.string a0_0, .int .i64 a0_1, .int .i64 a0_2, .int .i64 a0_3, .slice A0_4 l0_4.length c0_4] 32)) (.cells #[.string a1_0, .int .i64 a1_1, .int .i64 a1_2, .int .i64 a1_3, .slice A1_4 l1_4.length c1_4] 32)
  have HB1 := below_alloc (below_alloc (Below.refl w.heap.size w) (.cells #[.string a0_0, .int .i64 a0_1, .int .i64 a0_2, .int .i64 a0_3, .slice A0_4 l0_4.length c0_4] 32)) (.cells #[.string a1_0, .int .i64 a1_1, .int .i64 a1_2, .int .i64 a1_3, .slice A1_4 l1_4.length c1_4] 32)
  have hX := Lib.hid hX1
  generalize hW1 : (w.alloc (.cells #[.string a0_0, .int .i64 a0_1, .int .i64 a0_2, .int .i64 a0_3, .slice A0_4 l0_4.length c0_4] 32)).alloc (.cells #[.string a1_0, .int .i64 a1_1, .int .i64 a1_2, .int .i64 a1_3, .slice A1_4 l1_4.length c1_4] 32) = W1 at *
  have hYY : (w.alloc (.cells #[.string a0_0, .int .i64 a0_1, .int .i64 a0_2, .int .i64 a0_3, .slice A0_4 l0_4.length c0_4] 32)).heap.size = w.heap.size + 1 := by simp
  rw [hYY] at hY1
  clear hW1 hYY hX
  have x0 := (blk_cell hX1 0).trans rfl
  have x1 := (blk_cell hX1 1).trans rfl
  have x2 := (blk_cell hX1 2).trans rfl
  have x4 := (blk_cell hX1 4).trans rfl
  have y0 := (blk_cell hY1 0).trans rfl
  have y1 := (blk_cell hY1 1).trans rfl
  have y2 := (blk_cell hY1 2).trans rfl
  have y4 := (blk_cell hY1 4).trans rfl
  clear hX1 hY1
  have HBB := Aside0.mk HB1
  have h := HH.out
  clear HH
  unfold sets_Same.f at h
  by_cases h1 : a0_1 = a1_1
  case neg =>
    rw [if_neg (fun hh => h1 hh.1)] at h
    obtain rfl := Option.some.inj h
    clear h
    go_wp2
    go_ret
    exact ⟨rfl, HBB.out⟩
  by_cases h2 : a0_2 = a1_2
  case neg =>
    rw [if_neg (fun hh => h2 hh.2)] at h
    obtain rfl := Option.some.inj h
    clear h
    go_wp2
    go_ret
    exact ⟨rfl, HBB.out⟩
  subst h1
  subst h2
  rw [if_pos ⟨rfl, rfl⟩] at h
  obtain ⟨b, hb, h⟩ := Option.bind_eq_some_iff.1 h
  have HN := Aside0.mk hb
  clear hb
  have arm : ∀ W : World, RowKit.Below W1.heap.size W1 W → W.cell? ⟨w.heap.size, 4, none⟩ = some (.slice A0_4 l0_4.length c0_4) ∧ W.cell? ⟨w.heap.size + 1, 4, none⟩ = some (.slice A1_4 l1_4.length c1_4) := fun W hb => ⟨pw_cell_below hb x4, pw_cell_below hb y4⟩
  have hlB := HBB.out.size
  cases b with
  | false =>
    rw [if_neg (by simp)] at h
    obtain rfl := Option.some.inj h
    clear h
    go_wp2_with (first | (go_at_call 52; refine (name_Same.calls a0_0 a1_0 false _ HN.out).mono ?_; rintro e W2 ⟨rfl, hb⟩; obtain ⟨z4, u4⟩ := arm _ hb; have HB2 := Aside0.mk (below_step HBB.out hb)))
    go_ret
    exact ⟨rfl, HB2.out⟩
  | true =>
    by_cases h3 : l0_4.length = l1_4.length
    case neg =>
      rw [if_neg (fun hh => h3 hh.2)] at h
      obtain rfl := Option.some.inj h
      clear h
      go_wp2_with (first | (go_at_call 52; refine (name_Same.calls a0_0 a1_0 true _ HN.out).mono ?_; rintro e W2 ⟨rfl, hb⟩; obtain ⟨z4, u4⟩ := arm _ hb; have HB2 := Aside0.mk (below_step HBB.out hb)))
      go_ret
      exact ⟨rfl, HB2.out⟩
    rw [if_pos ⟨rfl, h3⟩] at h
    split at h
    case isFalse => cases h
    rename_i hs
    have hq := Option.some.inj h
    clear h
    have HQ := Aside0.mk hq
    clear hq
    have HS := Aside0.mk hs
    have H3 := Aside0.mk h3
    have b1 : ((l0_4.length : Int) != (l1_4.length : Int)) = false := by rw [h3]; simp
    have b2 : ((l0_4.length : Int) == (l1_4.length : Int)) = true := by rw [h3]; simp
    have b3 : (l0_4.length != l1_4.length) = false := by rw [h3]; simp
    have b4 : (l0_4.length == l1_4.length) = true := by rw [h3]; simp
    clear hs h3
    go_upto_region 3 with (first | (go_at_call 52; refine (name_Same.calls a0_0 a1_0 true _ HN.out).mono ?_; rintro e W2 ⟨rfl, hb⟩; obtain ⟨z4, u4⟩ := arm _ hb; have HB2 := Aside0.mk (below_step HBB.out hb); have HL2 := Aside0.mk hb))
    clear b1 b2 b3 b4 x0 x1 x2 x4 y0 y1 y2 y4 arm hb
    have keep : ∀ W : World, RowKit.Below W2.heap.size W2 W → RowKit.Below W2.heap.size W2 W ∧ W.cell? ⟨w.heap.size, 4, none⟩ = some (.slice A0_4 l0_4.length c0_4) ∧ W.cell? ⟨w.heap.size + 1, 4, none⟩ = some (.slice A1_4 l1_4.length c1_4) := fun W hb => ⟨hb, pw_cell_below hb z4, pw_cell_below hb u4⟩
    have Z := Below.refl W2.heap.size W2
    go_region_held3 (fun W => RowKit.Below W2.heap.size W2 W ∧ W.cell? ⟨w.heap.size, 4, none⟩ = some (.slice A0_4 l0_4.length c0_4) ∧ W.cell? ⟨w.heap.size + 1, 4, none⟩ = some (.slice A1_4 l1_4.length c1_4))
      ((refine keep _ ?_; repeat (first | assumption | (with_reducible first | apply below_alloc | apply pw_below_drewN | apply below_drew1)))) (first | (go_at_call 69; (with_reducible refine (slices_Clone_string_string.calls A0_4 c0_4 l0_4 l0_4 _ ?side1 hc0_4 ?side2).mono ?_); (case side1 => exact Kd.C_below HR0.out (below_step HB2.out (by repeat (first | assumption | (with_reducible first | apply below_alloc | apply pw_below_drewN | apply below_drew1))))); (case side2 => unfold slices_Clone_string_string.f; rw [if_pos HS.out]); rintro e W3 ⟨v1, rfl, hR1, hb⟩; have Z2 := below_step (by repeat (first | assumption | (with_reducible first | apply below_alloc | apply pw_below_drewN | apply below_drew1))) hb; have K1 := Aside0.mk (Kd.R_mono (Kd.R_bound hR1) (fun k h => (⟨h.2.1, h.2.2.1⟩ : W2.heap.size ≤ k ∧ k < W3.heap.size))); clear hR1) | (go_at_call 69; (with_reducible refine (slices_Clone_string_string.calls A1_4 c1_4 l1_4 l1_4 _ ?side1 hc1_4 ?side2).mono ?_); (case side1 => exact Kd.C_below HR1.out (below_step HB2.out (by repeat (first | assumption | (with_reducible first | apply below_alloc | apply pw_below_drewN | apply below_drew1))))); (case side2 => unfold slices_Clone_string_string.f; rw [if_pos (by rw [← H3.out]; exact HS.out)]); rintro e W4 ⟨v2, rfl, hR2, hb⟩; have Z3 := below_step (by repeat (first | assumption | (with_reducible first | apply below_alloc | apply pw_below_drewN | apply below_drew1))) hb; have K2 := Aside0.mk (Kd.R_mono (Kd.R_bound hR2) (fun k h => (h.2.1 : W3.heap.size ≤ k))); clear hR2; have K1b := Aside0.mk (Kd.R_below (by (with_reducible repeat (first | apply Kd.R_alloc | apply Kd.R_drewN | apply Kd.R_drew)); exact K1.out) hb)))
    all_goals
      have kb1 : Aside0 (∀ k, v1.ownBlock = some k → W2.heap.size ≤ k ∧ k < W3.heap.size) := ⟨fun k hk => K1.out.1 k hk⟩
      have kb2 : Aside0 (∀ k, v2.ownBlock = some k → W3.heap.size ≤ k) := ⟨fun k hk => K2.out.1 k hk⟩
      have hs2 := Aside0.mk HB2.out.size
      have hs3 := Aside0.mk Z2.size
      clear K1 keep
      have S1 := slices_Sort_texts _ _ v1 l0_4 W4 K1b.out (by have := HS.out; omega)
      have HB4 := Aside0.mk (below_step HB2.out Z3)
      have HS1 := Aside0.mk S1
      clear S1
      have S2 : Aside0 (∀ W5 : World, Kd.R Kd.string 9 W5 W2.drew.heap.size (fun k => W2.heap.size ≤ k ∧ k < W3.heap.size) v1 (sortT l0_4) → W4.grownBy W5 v1.ownBlock → RowKit.Below w.heap.size w W5 ∧ Kd.R Kd.string 9 W5 W3.heap.size (fun k => W3.heap.size ≤ k) v2 l1_4) := ⟨fun W5 h5 hg5 => ⟨below_grown_to HB4.out hg5 (fun k e => Nat.le_trans hs2.out (kb1.out k e).1), Kd.R_grown K2.out hg5 (fun k hk e => by have := (kb1.out k e.symm).2; omega)⟩⟩
      have S3 : Aside0 (∀ W5 W6 : World, Kd.R Kd.string 9 W5 W2.drew.heap.size (fun k => W2.heap.size ≤ k ∧ k < W3.heap.size) v1 (sortT l0_4) → RowKit.Below w.heap.size w W5 → W5.grownBy W6 v2.ownBlock → RowKit.Below w.heap.size w W6 ∧ Kd.R Kd.string 9 W6 W2.drew.heap.size (fun k => W2.heap.size ≤ k ∧ k < W3.heap.size) v1 (sortT l0_4)) := ⟨fun W5 W6 h5 hb5 hg6 => ⟨below_grown_to hb5 hg6 (fun k e => by have := kb2.out k e; have := hs2.out; have := hs3.out; omega), Kd.R_grown h5 hg6 (fun k hk e => by have := kb2.out k e.symm; have := hk.2; omega)⟩⟩
      have hl1 : l1_4.length < 4611686018427387904 := by have := HS.out; have := H3.out; omega
      go_wp2_with (first | (go_at_call 70; (with_reducible refine HS1.out.mono ?_); rintro e W5 ⟨rfl, hR5, hg5⟩; have T5 := Aside0.mk (S2.out W5 hR5 hg5); have R5 := Aside0.mk hR5; clear hR5 hg5) | (go_at_call 70; (with_reducible refine (slices_Sort_texts _ _ v2 l1_4 _ T5.out.2 hl1).mono ?_); rintro e W6 ⟨rfl, hR6, hg6⟩; have T6 := Aside0.mk (S3.out _ W6 R5.out T5.out.1 hg6); have R6 := Aside0.mk hR6; clear hR6 hg6) | (go_at_call 71; (with_reducible refine (slices_Equal_texts _ _ _ _ v1 v2 _ _ _ T6.out.2 R6.out).mono ?_); rintro e W7 ⟨rfl, ⟨nd, rfl⟩⟩; rw [HQ.out]))
      go_ret
      exact ⟨rfl, pw_below_drewN T6.out.1 _⟩
end Go.Proofs.Ytdkecfjeiookdaa.PA
