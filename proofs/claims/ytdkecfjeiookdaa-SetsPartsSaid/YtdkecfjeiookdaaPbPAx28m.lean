import Derived.Test.YtdkecfjeiookdaaPbPAx0m
import Derived.Test.YtdkecfjeiookdaaPbITm
import Derived.Outline
import Derived.Lib.Hide
import Derived.Deep.RegionHeld3
import Derived.Test.YtdkecfjeiookdaaPbAWm
import Derived.Sort.KeysCollected
import Derived.Test.YtdkecfjeiookdaaPbGR
import Derived.Lib.Strings
import Derived.Test.YtdkecfjeiookdaaPbPAx5
-- printed out of the translation by the kit's print (wip/tools/given.py), and cut by wip/tools/trim.py: Lean checks it.
namespace Go.Proofs.Ytdkecfjeiookdaa.PA
open Go.RowKit Go.Proofs.YtdkecfjeiookdaaW.PrintWords Go.Proofs.YtdkecfjeiookdaaW.PrintLast Go.Proofs.YtdkecfjeiookdaaW.PrintMore
attribute [local go_sem] max2_int min2_int max_two min_two max_three min_three max_four min_four   -- for this text's walks alone
set_option linter.unusedVariables false
set_option linter.unusedSimpArgs false

/-! ### name_Same: function 52 -/
def name_Same.f (a0 : ByteArray) (a1 : ByteArray) : Option (Bool) := (name_Check.f a0).bind fun t521 => (if t521 = 0 then ((name_Check.f a1).bind fun t522 => (if t522 = 0 then ((name_Lower.f a0).bind fun t523 => ((name_Lower.f a1).bind fun t524 => (some (t523.toList == t524.toList)))) else (some false))) else (some false))
set_option maxHeartbeats 8000000 in
set_option maxRecDepth 100000 in
theorem name_Same.calls (a0 : ByteArray) (a1 : ByteArray) (r : Bool) (w : World) (h : name_Same.f a0 a1 = some r) :
    Calls Try.prog 52 #[.string a0, .string a1] w fun e w' => e = .returned (.bool r) ∧ Below w.heap.size w w' := by
  have HB := Aside0.mk (Below.refl w.heap.size w)
  have H : ((name_Check.f a0).bind fun t521 => (if t521 = 0 then ((name_Check.f a1).bind fun t522 => (if t522 = 0 then ((name_Lower.f a0).bind fun t523 => ((name_Lower.f a1).bind fun t524 => (some (t523.toList == t524.toList)))) else (some false))) else (some false))) = some r := h
  clear h
  replace H := Option.bind_eq_some_iff.mp H
  obtain ⟨t521, A30, H⟩ := H
  replace H : (if t521 = 0 then ((name_Check.f a1).bind fun t522 => (if t522 = 0 then ((name_Lower.f a0).bind fun t523 => ((name_Lower.f a1).bind fun t524 => (some (t523.toList == t524.toList)))) else (some false))) else (some false)) = some r := H
  have A3 := Aside0.mk A30
  clear A30
  by_cases c4 : t521 = 0
  · rw [if_pos c4] at H
    have c4b0 : (t521 == 0) = true := beq_iff_eq.mpr c4
    have c4b1 : (t521 != 0) = false := bne_eq_false_iff_eq.mpr c4
    clear c4
    replace H := Option.bind_eq_some_iff.mp H
    obtain ⟨t522, A50, H⟩ := H
    replace H : (if t522 = 0 then ((name_Lower.f a0).bind fun t523 => ((name_Lower.f a1).bind fun t524 => (some (t523.toList == t524.toList)))) else (some false)) = some r := H
    have A5 := Aside0.mk A50
    clear A50
    by_cases c6 : t522 = 0
    · rw [if_pos c6] at H
      have c6b0 : (t522 == 0) = true := beq_iff_eq.mpr c6
      have c6b1 : (t522 != 0) = false := bne_eq_false_iff_eq.mpr c6
      clear c6
      replace H := Option.bind_eq_some_iff.mp H
      obtain ⟨t523, A70, H⟩ := H
      replace H : ((name_Lower.f a1).bind fun t524 => (some (t523.toList == t524.toList))) = some r := H
      have A7 := Aside0.mk A70
      clear A70
      replace H := Option.bind_eq_some_iff.mp H
      obtain ⟨t524, A80, H⟩ := H
      replace H : (some (t523.toList == t524.toList)) = some r := H
      have A8 := Aside0.mk A80
      clear A80
      obtain rfl := Option.some.inj H
      go_enter Try.func52, Try.ntmps52
      go_wp2_with (first | ((with_reducible refine gate_callee (f := 64) rfl ?_); refine goesL_ (some 6) rfl rfl Try.func64 (by kernel_rfl) rfl #[.string a0] rfl (by (try simp only [List.map_toArray, List.map_cons, List.map_nil]); first | done | rfl | (simp only [List.length_drop, List.length_take]; rfl)) ?_; (with_reducible refine (name_Check.calls a0 t521 _ A3.out).mono ?_); rintro e w9 ⟨rfl, hb⟩; refine ⟨_, rfl, ?_⟩; have n0_ := Aside0.mk (below_step (by repeat (first | (with_reducible first | exact HB.out | apply below_alloc | apply pw_below_drewN | apply below_drew1) | exact HB.out)) hb); clear HB; have HB := n0_; clear n0_; (try clear hb); (try clear hb2); (try clear hk); (try clear hi)) | (go_at_call 64; (with_reducible refine (name_Check.calls a1 t522 _ A5.out).mono ?_); rintro e w10 ⟨rfl, hb⟩; have n0_ := Aside0.mk (below_step (by repeat (first | (with_reducible first | exact HB.out | apply below_alloc | apply pw_below_drewN | apply below_drew1) | exact HB.out)) hb); clear HB; have HB := n0_; clear n0_; (try clear hb); (try clear hb2); (try clear hk); (try clear hi)) | (go_at_call 63; (with_reducible refine (name_Lower.calls a0 t523 _ A7.out).mono ?_); rintro e w11 ⟨rfl, hb⟩; have n0_ := Aside0.mk (below_step (by repeat (first | (with_reducible first | exact HB.out | apply below_alloc | apply pw_below_drewN | apply below_drew1) | exact HB.out)) hb); clear HB; have HB := n0_; clear n0_; (try clear hb); (try clear hb2); (try clear hk); (try clear hi)) | (go_at_call 63; (with_reducible refine (name_Lower.calls a1 t524 _ A8.out).mono ?_); rintro e w12 ⟨rfl, hb⟩; have n0_ := Aside0.mk (below_step (by repeat (first | (with_reducible first | exact HB.out | apply below_alloc | apply pw_below_drewN | apply below_drew1) | exact HB.out)) hb); clear HB; have HB := n0_; clear n0_; (try clear hb); (try clear hb2); (try clear hk); (try clear hi)))
      go_ret
      exact ⟨by first | rfl | (simp [errW_none, errW_some] <;> rfl) | (simp [*, errW_none, errW_some] <;> rfl), by repeat (first | (with_reducible first | exact HB.out | apply below_alloc | apply pw_below_drewN | apply below_drew1) | exact HB.out)⟩
    · rw [if_neg c6] at H
      have c6b0 : (t522 == 0) = false := beq_eq_false_iff_ne.mpr c6
      have c6b1 : (t522 != 0) = true := bne_iff_ne.mpr c6
      obtain rfl := Option.some.inj H
      go_enter Try.func52, Try.ntmps52
      go_wp2_with (first | ((with_reducible refine gate_callee (f := 64) rfl ?_); refine goesL_ (some 6) rfl rfl Try.func64 (by kernel_rfl) rfl #[.string a0] rfl (by (try simp only [List.map_toArray, List.map_cons, List.map_nil]); first | done | rfl | (simp only [List.length_drop, List.length_take]; rfl)) ?_; (with_reducible refine (name_Check.calls a0 t521 _ A3.out).mono ?_); rintro e w13 ⟨rfl, hb⟩; refine ⟨_, rfl, ?_⟩; have n0_ := Aside0.mk (below_step (by repeat (first | (with_reducible first | exact HB.out | apply below_alloc | apply pw_below_drewN | apply below_drew1) | exact HB.out)) hb); clear HB; have HB := n0_; clear n0_; (try clear hb); (try clear hb2); (try clear hk); (try clear hi)) | (go_at_call 64; (with_reducible refine (name_Check.calls a1 t522 _ A5.out).mono ?_); rintro e w14 ⟨rfl, hb⟩; have n0_ := Aside0.mk (below_step (by repeat (first | (with_reducible first | exact HB.out | apply below_alloc | apply pw_below_drewN | apply below_drew1) | exact HB.out)) hb); clear HB; have HB := n0_; clear n0_; (try clear hb); (try clear hb2); (try clear hk); (try clear hi)))
      go_ret
      exact ⟨by first | rfl | (simp [errW_none, errW_some] <;> rfl) | (simp [*, errW_none, errW_some] <;> rfl), by repeat (first | (with_reducible first | exact HB.out | apply below_alloc | apply pw_below_drewN | apply below_drew1) | exact HB.out)⟩
  · rw [if_neg c4] at H
    have c4b0 : (t521 == 0) = false := beq_eq_false_iff_ne.mpr c4
    have c4b1 : (t521 != 0) = true := bne_iff_ne.mpr c4
    obtain rfl := Option.some.inj H
    go_enter Try.func52, Try.ntmps52
    go_wp2_with (first | ((with_reducible refine gate_callee (f := 64) rfl ?_); refine goesL_ (some 6) rfl rfl Try.func64 (by kernel_rfl) rfl #[.string a0] rfl (by (try simp only [List.map_toArray, List.map_cons, List.map_nil]); first | done | rfl | (simp only [List.length_drop, List.length_take]; rfl)) ?_; (with_reducible refine (name_Check.calls a0 t521 _ A3.out).mono ?_); rintro e w15 ⟨rfl, hb⟩; refine ⟨_, rfl, ?_⟩; have n0_ := Aside0.mk (below_step (by repeat (first | (with_reducible first | exact HB.out | apply below_alloc | apply pw_below_drewN | apply below_drew1) | exact HB.out)) hb); clear HB; have HB := n0_; clear n0_; (try clear hb); (try clear hb2); (try clear hk); (try clear hi)))
    go_ret
    exact ⟨by first | rfl | (simp [errW_none, errW_some] <;> rfl) | (simp [*, errW_none, errW_some] <;> rfl), by repeat (first | (with_reducible first | exact HB.out | apply below_alloc | apply pw_below_drewN | apply below_drew1) | exact HB.out)⟩

end Go.Proofs.Ytdkecfjeiookdaa.PA
/- Contracts by hand: sets.Same. -/
namespace Go.Proofs.Ytdkecfjeiookdaa.PA
open Go.RowKit Go.Maps Go.Sort Go.Proofs.YtdkecfjeiookdaaW.PrintWords Go.Proofs.YtdkecfjeiookdaaW.PrintLast Go.Proofs.YtdkecfjeiookdaaW.PrintMore
set_option linter.unusedVariables false
set_option linter.unusedSimpArgs false

theorem below_grown_to {w A B : World} {row : Option Nat} (h : RowKit.Below w.heap.size w A) (hg : A.grownBy B row) (hne : ∀ k, row = some k → w.heap.size ≤ k) : RowKit.Below w.heap.size w B := h.grown hg h.size hne
def sets_Same.f (a0_0 : ByteArray) (a0_1 : Int) (a0_2 : Int) (a0_3 : Int) (l0_4 : List ByteArray) (a1_0 : ByteArray) (a1_1 : Int) (a1_2 : Int) (a1_3 : Int) (l1_4 : List ByteArray) : Option (Bool) :=
  if a0_1 = a1_1 ∧ a0_2 = a1_2 then (name_Same.f a0_0 a1_0).bind fun b => if b = true ∧ l0_4.length = l1_4.length then (if l0_4.length * 16 ≤ 140737488355328 then some (decide (sortT l0_4 = sortT l1_4)) else none) else some false
  else some false

set_option maxHeartbeats 4000000 in
set_option maxRecDepth 100000 in
theorem sets_Same.calls (a0_0 : ByteArray) (a0_1 : Int) (a0_2 : Int) (a0_3 : Int) (A0_4 : Option Addr) (c0_4 : Nat) (l0_4 : List ByteArray) (a1_0 : ByteArray) (a1_1 : Int) (a1_2 : Int) (a1_3 : Int) (A1_4 : Option Addr) (c1_4 : Nat) (l1_4 : List ByteArray) (r : Bool) (w : World) (hr0_4 : Kd.C Kd.string w A0_4 l0_4.length l0_4) (hc0_4 : l0_4.length ≤ c0_4) (hr1_4 : Kd.C Kd.string w A1_4 l1_4.length l1_4) (hc1_4 : l1_4.length ≤ c1_4) (h : sets_Same.f a0_0 a0_1 a0_2 a0_3 l0_4 a1_0 a1_1 a1_2 a1_3 l1_4 = some r) :
    Calls Try.prog 27 #[.agg #[.string a0_0, .int .i64 a0_1, .int .i64 a0_2, .int .i64 a0_3, .slice A0_4 l0_4.length c0_4], .agg #[.string a1_0, .int .i64 a1_1, .int .i64 a1_2, .int .i64 a1_3, .slice A1_4 l1_4.length c1_4]] w fun e w' => e = .returned (.bool r) ∧ Below w.heap.size w w' := by
  have HR0 := Aside0.mk hr0_4
  have HR1 := Aside0.mk hr1_4
  have HH := Aside0.mk h
  clear hr0_4 hr1_4 h
  go_enter Try.func27, Try.ntmps27
  go_upto_region 1 with fail
  have hX1 : ((w.alloc (.cells #[.string a0_0, .int .i64 a0_1, .int .i64 a0_2, .int .i64 a0_3, .slice A0_4 l0_4.length c0_4] 32)).alloc (.cells #[.string a1_0, .int .i64 a1_1, .int .i64 a1_2, .int .i64 a1_3, .slice A1_4 l1_4.length c1_4] 32)).heap[w.heap.size]? = _ := blk_alloc (World.alloc_heap_new w _) _
  have hY1 := World.alloc_heap_new (w.alloc (.cells #[.string a0_0, .int .i64 a0_1, .int .i64 a0_2, .int .i64 a0_3, .slice A0_4 l0_4.length c0_4] 32)) (.cells #[.string a1_0, .int .i64 a1_1, .int .i64 a1_2, .int .i64 a1_3, .slice A1_4 l1_4.length c1_4] 32)
  have HB1 := below_alloc (below_alloc (Below.refl w.heap.size w) (.cells #[.string a0_0, .int .i64 a0_1, .int .i64 a0_2, .int .i64 a0_3, .slice A0_4 l0_4.length c0_4] 32)) (.cells #[.string a1_0, .int .i64 a1_1, .int .i64 a1_2, .int .i64 a1_3, .slice A1_4 l1_4.length c1_4] 32)
  have hX := Lib.hid hX1
  generalize hW1 : (w.alloc (.cells #[.string a0_0, .int .i64 a0_1, .int .i64 a0_2, .int .i64 a0_3, .slice A0_4 l0_4.length c0_4] 32)).alloc (.cells #[.string a1_0, .int .i64 a1_1, .int .i64 a1_2, .int .i64 a1_3, .slice A1_4 l1_4.length c1_4] 32) = W1 at *
  have hYY : (w.alloc (.cells #[.string a0_0, .int .i64 a0_1, .int .i64 a0_2, .int .i64 a0_3, .slice A0_4 l0_4.length c0_4] 32)).heap.size = w.heap.size + 1 := by simp
  rw [hYY] at hY1
  clear hW1 hYY hX
  have x0 := (blk_cell hX1 0).trans rfl
  have x1 := (blk_cell hX1 1).trans rfl
  have x2 := (blk_cell hX1 2).trans rfl
  have x4 := (blk_cell hX1 4).trans rfl
  have y0 := (blk_cell hY1 0).trans rfl
  have y1 := (blk_cell hY1 1).trans rfl
  have y2 := (blk_cell hY1 2).trans rfl
  have y4 := (blk_cell hY1 4).trans rfl
  clear hX1 hY1
  have HBB := Aside0.mk HB1
  have h := HH.out
  clear HH
  unfold sets_Same.f at h
  by_cases h1 : a0_1 = a1_1
  case neg =>
    rw [if_neg (fun hh => h1 hh.1)] at h
    obtain rfl := Option.some.inj h
    clear h
    go_wp2
    go_ret
    exact ⟨rfl, HBB.out⟩
  by_cases h2 : a0_2 = a1_2
  case neg =>
    rw [if_neg (fun hh => h2 hh.2)] at h
    obtain rfl := Option.some.inj h
    clear h
    go_wp2
    go_ret
    exact ⟨rfl, HBB.out⟩
  subst h1
  subst h2
  rw [if_pos ⟨rfl, rfl⟩] at h
  obtain ⟨b, hb, h⟩ := Option.bind_eq_some_iff.1 h
  have HN := Aside0.mk hb
  clear hb
  have arm : ∀ W : World, RowKit.Below W1.heap.size W1 W → W.cell? ⟨w.heap.size, 4, none⟩ = some (.slice A0_4 l0_4.length c0_4) ∧ W.cell? ⟨w.heap.size + 1, 4, none⟩ = some (.slice A1_4 l1_4.length c1_4) := fun W hb => ⟨pw_cell_below hb x4, pw_cell_below hb y4⟩
  have hlB := HBB.out.size
  cases b with
  | false =>
    rw [if_neg (by simp)] at h
    obtain rfl := Option.some.inj h
    clear h
    go_wp2_with (first | (go_at_call 52; refine (name_Same.calls a0_0 a1_0 false _ HN.out).mono ?_; rintro e W2 ⟨rfl, hb⟩; obtain ⟨z4, u4⟩ := arm _ hb; have HB2 := Aside0.mk (below_step HBB.out hb)))
    go_ret
    exact ⟨rfl, HB2.out⟩
  | true =>
    by_cases h3 : l0_4.length = l1_4.length
    case neg =>
      rw [if_neg (fun hh => h3 hh.2)] at h
      obtain rfl := Option.some.inj h
      clear h
      go_wp2_with (first | (go_at_call 52; refine (name_Same.calls a0_0 a1_0 true _ HN.out).mono ?_; rintro e W2 ⟨rfl, hb⟩; obtain ⟨z4, u4⟩ := arm _ hb; have HB2 := Aside0.mk (below_step HBB.out hb)))
      go_ret
      exact ⟨rfl, HB2.out⟩
    rw [if_pos ⟨rfl, h3⟩] at h
    split at h
    case isFalse => cases h
    rename_i hs
    have hq := Option.some.inj h
    clear h
    have HQ := Aside0.mk hq
    clear hq
    have HS := Aside0.mk hs
    have H3 := Aside0.mk h3
    have b1 : ((l0_4.length : Int) != (l1_4.length : Int)) = false := by rw [h3]; simp
    have b2 : ((l0_4.length : Int) == (l1_4.length : Int)) = true := by rw [h3]; simp
    have b3 : (l0_4.length != l1_4.length) = false := by rw [h3]; simp
    have b4 : (l0_4.length == l1_4.length) = true := by rw [h3]; simp
    clear hs h3
    go_upto_region 3 with (first | (go_at_call 52; refine (name_Same.calls a0_0 a1_0 true _ HN.out).mono ?_; rintro e W2 ⟨rfl, hb⟩; obtain ⟨z4, u4⟩ := arm _ hb; have HB2 := Aside0.mk (below_step HBB.out hb); have HL2 := Aside0.mk hb))
    clear b1 b2 b3 b4 x0 x1 x2 x4 y0 y1 y2 y4 arm hb
    have keep : ∀ W : World, RowKit.Below W2.heap.size W2 W → RowKit.Below W2.heap.size W2 W ∧ W.cell? ⟨w.heap.size, 4, none⟩ = some (.slice A0_4 l0_4.length c0_4) ∧ W.cell? ⟨w.heap.size + 1, 4, none⟩ = some (.slice A1_4 l1_4.length c1_4) := fun W hb => ⟨hb, pw_cell_below hb z4, pw_cell_below hb u4⟩
    have Z := Below.refl W2.heap.size W2
    go_region_held3 (fun W => RowKit.Below W2.heap.size W2 W ∧ W.cell? ⟨w.heap.size, 4, none⟩ = some (.slice A0_4 l0_4.length c0_4) ∧ W.cell? ⟨w.heap.size + 1, 4, none⟩ = some (.slice A1_4 l1_4.length c1_4))
      ((refine keep _ ?_; repeat (first | assumption | (with_reducible first | apply below_alloc | apply pw_below_drewN | apply below_drew1)))) (first | (go_at_call 69; (with_reducible refine (slices_Clone_string_string.calls A0_4 c0_4 l0_4 l0_4 _ ?side1 hc0_4 ?side2).mono ?_); (case side1 => exact Kd.C_below HR0.out (below_step HB2.out (by repeat (first | assumption | (with_reducible first | apply below_alloc | apply pw_below_drewN | apply below_drew1))))); (case side2 => unfold slices_Clone_string_string.f; rw [if_pos HS.out]); rintro e W3 ⟨v1, rfl, hR1, hb⟩; have Z2 := below_step (by repeat (first | assumption | (with_reducible first | apply below_alloc | apply pw_below_drewN | apply below_drew1))) hb; have K1 := Aside0.mk (Kd.R_mono (Kd.R_bound hR1) (fun k h => (⟨h.2.1, h.2.2.1⟩ : W2.heap.size ≤ k ∧ k < W3.heap.size))); clear hR1) | (go_at_call 69; (with_reducible refine (slices_Clone_string_string.calls A1_4 c1_4 l1_4 l1_4 _ ?side1 hc1_4 ?side2).mono ?_); (case side1 => exact Kd.C_below HR1.out (below_step HB2.out (by repeat (first | assumption | (with_reducible first | apply below_alloc | apply pw_below_drewN | apply below_drew1))))); (case side2 => unfold slices_Clone_string_string.f; rw [if_pos (by rw [← H3.out]; exact HS.out)]); rintro e W4 ⟨v2, rfl, hR2, hb⟩; have Z3 := below_step (by repeat (first | assumption | (with_reducible first | apply below_alloc | apply pw_below_drewN | apply below_drew1))) hb; have K2 := Aside0.mk (Kd.R_mono (Kd.R_bound hR2) (fun k h => (h.2.1 : W3.heap.size ≤ k))); clear hR2; have K1b := Aside0.mk (Kd.R_below (by (with_reducible repeat (first | apply Kd.R_alloc | apply Kd.R_drewN | apply Kd.R_drew)); exact K1.out) hb)))
    all_goals
      have kb1 : Aside0 (∀ k, v1.ownBlock = some k → W2.heap.size ≤ k ∧ k < W3.heap.size) := ⟨fun k hk => K1.out.1 k hk⟩
      have kb2 : Aside0 (∀ k, v2.ownBlock = some k → W3.heap.size ≤ k) := ⟨fun k hk => K2.out.1 k hk⟩
      have hs2 := Aside0.mk HB2.out.size
      have hs3 := Aside0.mk Z2.size
      clear K1 keep
      have S1 := slices_Sort_texts _ _ v1 l0_4 W4 K1b.out (by have := HS.out; omega)
      have HB4 := Aside0.mk (below_step HB2.out Z3)
      have HS1 := Aside0.mk S1
      clear S1
      have S2 : Aside0 (∀ W5 : World, Kd.R Kd.string 9 W5 W2.drew.heap.size (fun k => W2.heap.size ≤ k ∧ k < W3.heap.size) v1 (sortT l0_4) → W4.grownBy W5 v1.ownBlock → RowKit.Below w.heap.size w W5 ∧ Kd.R Kd.string 9 W5 W3.heap.size (fun k => W3.heap.size ≤ k) v2 l1_4) := ⟨fun W5 h5 hg5 => ⟨below_grown_to HB4.out hg5 (fun k e => Nat.le_trans hs2.out (kb1.out k e).1), Kd.R_grown K2.out hg5 (fun k hk e => by have := (kb1.out k e.symm).2; omega)⟩⟩
      have S3 : Aside0 (∀ W5 W6 : World, Kd.R Kd.string 9 W5 W2.drew.heap.size (fun k => W2.heap.size ≤ k ∧ k < W3.heap.size) v1 (sortT l0_4) → RowKit.Below w.heap.size w W5 → W5.grownBy W6 v2.ownBlock → RowKit.Below w.heap.size w W6 ∧ Kd.R Kd.string 9 W6 W2.drew.heap.size (fun k => W2.heap.size ≤ k ∧ k < W3.heap.size) v1 (sortT l0_4)) := ⟨fun W5 W6 h5 hb5 hg6 => ⟨below_grown_to hb5 hg6 (fun k e => by have := kb2.out k e; have := hs2.out; have := hs3.out; omega), Kd.R_grown h5 hg6 (fun k hk e => by have := kb2.out k e.symm; have := hk.2; omega)⟩⟩
      have hl1 : l1_4.length < 4611686018427387904 := by have := HS.out; have := H3.out; omega
      go_wp2_with (first | (go_at_call 70; (with_reducible refine HS1.out.mono ?_); rintro e W5 ⟨rfl, hR5, hg5⟩; have T5 := Aside0.mk (S2.out W5 hR5 hg5); have R5 := Aside0.mk hR5; clear hR5 hg5) | (go_at_call 70; (with_reducible refine (slices_Sort_texts _ _ v2 l1_4 _ T5.out.2 hl1).mono ?_); rintro e W6 ⟨rfl, hR6, hg6⟩; have T6 := Aside0.mk (S3.out _ W6 R5.out T5.out.1 hg6); have R6 := Aside0.mk hR6; clear hR6 hg6) | (go_at_call 71; (with_reducible refine (slices_Equal_texts _ _ _ _ v1 v2 _ _ _ T6.out.2 R6.out).mono ?_); rintro e W7 ⟨rfl, ⟨nd, rfl⟩⟩; rw [HQ.out]))
      go_ret
      exact ⟨rfl, pw_below_drewN T6.out.1 _⟩
end Go.Proofs.Ytdkecfjeiookdaa.PA
/- Plain words on the functions that the contracts by hand name: sorted texts. -/
namespace Go.Proofs.Ytdkecfjeiookdaa.PA
open Go Go.RowKit Go.Maps Go.Sort
theorem sortT_perm {xs ys : List ByteArray} (h : xs.Perm ys) : sortT xs = sortT ys := by
  unfold sortT
  rw [show ((xs.map fun x => x.data.toList).mergeSort fun x y => decide (x ≤ y)) = ((ys.map fun x => x.data.toList).mergeSort fun x y => decide (x ≤ y)) from mergeSort_of_perm (h.map _)]
theorem sortT_is (xs : List ByteArray) : (sortT xs).Perm xs := by
  unfold sortT
  have h := (List.mergeSort_perm (xs.map fun x => x.data.toList) (fun x y => decide (x ≤ y))).map (fun l => (⟨l.toArray⟩ : ByteArray))
  refine h.trans ?_
  rw [List.map_map]
  have : ((fun l : List UInt8 => (⟨l.toArray⟩ : ByteArray)) ∘ fun x : ByteArray => x.data.toList) = id := funext fun x => rfl
  rw [this, List.map_id]
theorem sortT_iff (xs ys : List ByteArray) : sortT xs = sortT ys ↔ xs.Perm ys :=
  ⟨fun h => (sortT_is xs).symm.trans (h ▸ sortT_is ys), sortT_perm⟩
end Go.Proofs.Ytdkecfjeiookdaa.PA
-- printed out of the translation by the kit's print (wip/tools/given.py), and cut by wip/tools/trim.py: Lean checks it.
namespace Go.Proofs.Ytdkecfjeiookdaa.PA
open Go.RowKit Go.Proofs.YtdkecfjeiookdaaW.PrintWords Go.Proofs.YtdkecfjeiookdaaW.PrintLast Go.Proofs.YtdkecfjeiookdaaW.PrintMore
attribute [local go_sem] max2_int min2_int max_two min_two max_three min_three max_four min_four   -- for this text's walks alone
set_option linter.unusedVariables false
set_option linter.unusedSimpArgs false

/-! ### ostiarykit_LongSet: function 33 -/

end Go.Proofs.Ytdkecfjeiookdaa.PA
/- Plain words on sets: what the contracts' functions tell of short names and short lists. -/
namespace Go.Proofs.Ytdkecfjeiookdaa.PA
open Go Go.RowKit Go.Proofs.YtdkecfjeiookdaaW.PrintWords Go.Proofs.YtdkecfjeiookdaaW.PrintLast Go.Proofs.Ytdkecfjeiookdaa.Ro
set_option linter.unusedVariables false

def okN (a : ByteArray) : Bool := decide (name_Check.f a = some 0)
def sameN (a b : ByteArray) : Bool := okN a && okN b && decide ((lowS a).toList = (lowS b).toList)
theorem check_tells (a : ByteArray) (h : a.size ≤ 4398046511104) : ∃ c, name_Check.f a = some c ∧ (c = 0 ↔ okN a = true) := by
  obtain ⟨c, hc⟩ := check_some a h
  refine ⟨c, hc, ?_⟩
  unfold okN
  rw [hc, decide_eq_true_iff, Option.some.injEq]
theorem nameSame_tells (a b : ByteArray) (ha : a.size ≤ 4398046511104) (hb : b.size ≤ 4398046511104) : name_Same.f a b = some (sameN a b) := by
  obtain ⟨c, hc, hc0⟩ := check_tells a ha
  obtain ⟨d, hd, hd0⟩ := check_tells b hb
  unfold name_Same.f sameN
  rw [hc, Option.bind_some]
  by_cases h1 : c = 0
  · rw [if_pos h1, hd, Option.bind_some, hc0.1 h1]
    by_cases h2 : d = 0
    · rw [if_pos h2, hd0.1 h2]
      unfold name_Lower.f
      rw [if_pos (by omega), if_pos (by omega)]
      simp only [Option.bind_some, Bool.and_self, Bool.true_and]
      rw [Option.some.injEq, Bool.eq_iff_iff, beq_iff_eq, decide_eq_true_iff]
    · rw [if_neg h2]
      have : okN b = false := by rw [Bool.eq_false_iff]; exact fun h => h2 (hd0.2 h)
      rw [this]; simp
  · rw [if_neg h1]
    have : okN a = false := by rw [Bool.eq_false_iff]; exact fun h => h1 (hc0.2 h)
    rw [this]; simp
def sameS (n1 : ByteArray) (t1 c1 : Int) (l1 : List ByteArray) (n2 : ByteArray) (t2 c2 : Int) (l2 : List ByteArray) : Bool := decide (t1 = t2) && decide (c1 = c2) && sameN n1 n2 && decide (sortT l1 = sortT l2)
theorem same_tells (n1 : ByteArray) (t1 c1 x1 : Int) (l1 : List ByteArray) (n2 : ByteArray) (t2 c2 x2 : Int) (l2 : List ByteArray) (h1 : n1.size ≤ 4398046511104) (h2 : n2.size ≤ 4398046511104) (h3 : l1.length * 16 ≤ 140737488355328) : sets_Same.f n1 t1 c1 x1 l1 n2 t2 c2 x2 l2 = some (sameS n1 t1 c1 l1 n2 t2 c2 l2) := by
  unfold sets_Same.f sameS
  by_cases ht : t1 = t2
  · by_cases hc : c1 = c2
    · rw [if_pos ⟨ht, hc⟩, nameSame_tells n1 n2 h1 h2, Option.bind_some, decide_eq_true ht, decide_eq_true hc]
      cases hn : sameN n1 n2
      · rw [if_neg (by simp)]; simp
      · by_cases hl : l1.length = l2.length
        · rw [if_pos ⟨rfl, hl⟩, if_pos h3]; simp
        · rw [if_neg (fun h => hl h.2), decide_eq_false (fun h => hl ((sortT_iff l1 l2).1 h).length_eq)]; simp
    · rw [if_neg (fun h => hc h.2), decide_eq_false hc]; simp
  · rw [if_neg (fun h => ht h.1), decide_eq_false ht]; simp
theorem check_one (n : ByteArray) (h : n.size ≤ 4398046511104) : ∃ c, sets_Check.f n 0 0 0 [⟨#[]⟩] = some c ∧ (c == 0) = okN n := by
  obtain ⟨c, hc, hc0⟩ := check_tells n h
  unfold sets_Check.f
  rw [if_pos (by intro x hx; rw [List.mem_singleton.1 hx]; decide), hc, Option.bind_some]
  by_cases h1 : c = 0
  · rw [if_pos ⟨h1, by decide, by decide, by decide, by decide, by decide, by decide, by decide, by decide, by decide⟩]
    exact ⟨0, rfl, by rw [hc0.1 h1]; rfl⟩
  · rw [if_neg (fun hh => h1 hh.1)]
    exact ⟨2, rfl, by rw [show okN n = false from by rw [Bool.eq_false_iff]; exact fun h => h1 (hc0.2 h)]; rfl⟩
end Go.Proofs.Ytdkecfjeiookdaa.PA
/- Plain words on sets.Group: what its sets are, where each name may be. -/
namespace Go.Proofs.Ytdkecfjeiookdaa.PA
open Go Go.RowKit Go.Proofs.YtdkecfjeiookdaaW.PrintWords Go.Proofs.YtdkecfjeiookdaaW.PrintLast
set_option linter.unusedVariables false

theorem mn_le (a b : Int) : mn a b ≤ a ∧ mn a b ≤ b ∧ (mn a b = a ∨ mn a b = b) := by
  unfold mn
  split <;> omega
theorem bytes_eq {a b : ByteArray} (h : a.toList = b.toList) : a = b := by
  rw [Go.Lib.toList_data, Go.Lib.toList_data] at h
  rw [← Go.Lib.mk_data a, ← Go.Lib.mk_data b, h]
theorem lastIx_some {ks : List KeyG} {k : KeyG} {j : Nat} (h : lastIx ks k = some j) : ks[j]? = some k := by
  unfold lastIx at h
  have := List.find?_some h
  exact of_decide_eq_true this
theorem lastIx_none {ks : List KeyG} {k : KeyG} (h : lastIx ks k = none) : k ∉ ks := by
  intro hk
  obtain ⟨i, hi, rfl⟩ := List.getElem_of_mem hk
  unfold lastIx at h
  have := List.find?_eq_none.1 h i (by rw [List.mem_reverse, List.mem_range]; exact hi)
  exact this (decide_eq_true (List.getElem?_eq_getElem hi))
/-- What one set says of the records so far. -/
def SetOf (l : List S39) (s : S32) : Prop :=
  okN s.f0 = true ∧ s.f4.Nodup ∧ (∀ d, d ∈ s.f4 ↔ ∃ r ∈ l, keyR r = keyS s ∧ r.f4 = d) ∧ (∃ r ∈ l, keyR r = keyS s ∧ r.f3 = s.f3) ∧ ∀ r ∈ l, keyR r = keyS s → s.f3 ≤ r.f3
def SetsOf (l : List S39) (out : List S32) : Prop := (out.map keyS).Nodup ∧ (∀ s ∈ out, SetOf l s) ∧ ∀ r ∈ l, ∃ s ∈ out, keyS s = keyR r
theorem setOf_other {l : List S39} {s : S32} (h : SetOf l s) {r : S39} (hr : keyR r ≠ keyS s) : SetOf (l ++ [r]) s := by
  obtain ⟨h1, h2, h3, ⟨q, hq, hq1, hq2⟩, h5⟩ := h
  refine ⟨h1, h2, fun d => (h3 d).trans ⟨?_, ?_⟩, ⟨q, List.mem_append_left _ hq, hq1, hq2⟩, fun q hq hk => ?_⟩
  · rintro ⟨q, hq, hk, hd⟩
    exact ⟨q, List.mem_append_left _ hq, hk, hd⟩
  · rintro ⟨q, hq, hk, hd⟩
    rcases List.mem_append.1 hq with hq | hq
    · exact ⟨q, hq, hk, hd⟩
    · rw [List.mem_singleton.1 hq] at hk; exact absurd hk hr
  · rcases List.mem_append.1 hq with hq | hq
    · exact h5 q hq hk
    · rw [List.mem_singleton.1 hq] at hk; exact absurd hk hr
theorem setOf_add {l : List S39} {s : S32} (h : SetOf l s) {r : S39} (hr : keyR r = keyS s) : SetOf (l ++ [r]) (addTo s r) := by
  obtain ⟨h1, h2, h3, ⟨q, hq, hq1, hq2⟩, h5⟩ := h
  have hany : s.f4.any (fun x => x.toList = r.f4.toList) = true ↔ r.f4 ∈ s.f4 := by
    rw [List.any_eq_true]
    constructor
    · rintro ⟨x, hx, he⟩
      rw [← bytes_eq (of_decide_eq_true he)]
      exact hx
    · intro hx
      exact ⟨_, hx, decide_eq_true rfl⟩
  have hm := mn_le s.f3 r.f3
  have hf4 : ∀ d, d ∈ (addTo s r).f4 ↔ d ∈ s.f4 ∨ d = r.f4 := by
    intro d
    unfold addTo
    dsimp only
    split
    · rename_i hh
      exact ⟨Or.inl, fun hh2 => hh2.elim id (fun e => by rw [e]; exact hany.1 hh)⟩
    · rw [List.mem_append, List.mem_singleton]
  refine ⟨h1, ?_, fun d => ?_, ?_, fun q hq hk => ?_⟩
  · unfold addTo
    dsimp only
    split
    · exact h2
    · rename_i hh
      rw [List.nodup_append]
      exact ⟨h2, by simp, fun a ha b hb => by rw [List.mem_singleton.1 hb]; exact fun e => hh (hany.2 (e ▸ ha))⟩
  · rw [hf4, h3, keyS_add]
    constructor
    · rintro (⟨q, hq, hk, hd⟩ | rfl)
      · exact ⟨q, List.mem_append_left _ hq, hk, hd⟩
      · exact ⟨r, by simp, hr, rfl⟩
    · rintro ⟨q, hq, hk, hd⟩
      rcases List.mem_append.1 hq with hq | hq
      · exact Or.inl ⟨q, hq, hk, hd⟩
      · rw [List.mem_singleton.1 hq] at hd; exact Or.inr hd.symm
  · rcases hm.2.2 with e | e
    · exact ⟨q, List.mem_append_left _ hq, hq1, hq2.trans e.symm⟩
    · exact ⟨r, by simp, hr, e.symm⟩
  · rw [keyS_add] at hk
    show mn s.f3 r.f3 ≤ q.f3
    rcases List.mem_append.1 hq with hq | hq
    · have := h5 q hq hk; omega
    · rw [List.mem_singleton.1 hq]; omega
theorem setOf_new {l : List S39} {r : S39} (ho : okN r.f0 = true) (hn : ∀ q ∈ l, keyR q ≠ keyR r) : SetOf (l ++ [r]) (newSet r) := by
  refine ⟨ho, by simp [newSet], fun d => ?_, ⟨r, by simp, rfl, rfl⟩, fun q hq hk => ?_⟩
  · constructor
    · intro hd
      exact ⟨r, by simp, rfl, (List.mem_singleton.1 hd).symm⟩
    · rintro ⟨q, hq, hk, hd⟩
      rcases List.mem_append.1 hq with hq | hq
      · exact absurd hk (hn q hq)
      · rw [List.mem_singleton.1 hq] at hd; rw [← hd]; simp [newSet]
  · rcases List.mem_append.1 hq with hq | hq
    · exact absurd hk (hn q hq)
    · rw [List.mem_singleton.1 hq]; exact Int.le_refl _
theorem setsOf_step {l : List S39} {out : List S32} (h : SetsOf l out) {r : S39} (ho : okN r.f0 = true) : SetsOf (l ++ [r]) (groupStep out r) := by
  obtain ⟨h1, h2, h3⟩ := h
  cases hl : lastIx (out.map keyS) (keyR r) with
  | none =>
    have hk := lastIx_none hl
    rw [groupStep_new _ _ (.inl hl)]
    have hn : ∀ q ∈ l, keyR q ≠ keyR r := fun q hq e => by
      obtain ⟨s, hs, hks⟩ := h3 q hq
      exact hk (List.mem_map.2 ⟨s, hs, hks.trans e⟩)
    refine ⟨?_, fun s hs => ?_, fun q hq => ?_⟩
    · rw [List.map_append, List.map_singleton, List.nodup_append]
      exact ⟨h1, by simp, fun a ha b hb => by rw [List.mem_singleton.1 hb]; exact fun e => hk (by rw [show keyR r = a from e.symm]; exact ha)⟩
    · rcases List.mem_append.1 hs with hs | hs
      · exact setOf_other (h2 s hs) (fun e => hk (List.mem_map.2 ⟨s, hs, e.symm⟩))
      · rw [List.mem_singleton.1 hs]; exact setOf_new ho hn
    · rcases List.mem_append.1 hq with hq | hq
      · obtain ⟨s, hs, hks⟩ := h3 q hq
        exact ⟨s, List.mem_append_left _ hs, hks⟩
      · rw [List.mem_singleton.1 hq]; exact ⟨newSet r, by simp, rfl⟩
  | some j =>
    have hj := lastIx_some hl
    rw [List.getElem?_map] at hj
    obtain ⟨s, hs, hks⟩ := Option.map_eq_some_iff.1 hj
    have hjl : j < out.length := (List.getElem?_eq_some_iff.1 hs).1
    have hsj : out.getD j z32 = s := by rw [List.getD_eq_getElem?_getD, hs]; rfl
    rw [groupStep_old _ _ _ hl (of_decide_eq_true ho), hsj]
    have hmap : (out.set j (addTo s r)).map keyS = out.map keyS := by
      rw [List.map_set, keyS_add]
      apply List.ext_getElem?
      intro i
      rw [List.getElem?_set]
      split
      · rename_i e; subst e; rw [List.getElem?_map, hs, if_pos (by simpa using hjl)]; rfl
      · rfl
    refine ⟨by rw [hmap]; exact h1, fun t ht => ?_, fun q hq => ?_⟩
    · obtain ⟨i, hi, rfl⟩ := List.getElem_of_mem ht
      rw [List.getElem_set]
      split
      · exact setOf_add (h2 s (List.mem_of_getElem? hs)) hks.symm
      · rename_i hne
        have hi' : i < out.length := by simpa using hi
        refine setOf_other (h2 _ (List.getElem_mem hi')) (fun e => hne ?_)
        have e2 : (out.map keyS)[j]'(by simpa using hjl) = (out.map keyS)[i]'(by simpa using hi') := by
          rw [List.getElem_map, List.getElem_map, ← e, ← hks]
          rw [List.getElem?_eq_getElem hjl] at hs
          rw [Option.some.inj hs]
        exact (List.getElem_inj h1).1 e2
    · have mem : ∀ κ, (∃ s ∈ out, keyS s = κ) → ∃ s' ∈ out.set j (addTo s r), keyS s' = κ := fun κ ⟨a, ha, hk⟩ => by
        have : κ ∈ (out.set j (addTo s r)).map keyS := by rw [hmap]; exact List.mem_map.2 ⟨a, ha, hk⟩
        obtain ⟨b, hb, hb2⟩ := List.mem_map.1 this
        exact ⟨b, hb, hb2⟩
      rcases List.mem_append.1 hq with hq | hq
      · exact mem _ (h3 q hq)
      · rw [List.mem_singleton.1 hq]; exact mem _ ⟨s, List.mem_of_getElem? hs, hks⟩
theorem setsOf_fold (l : List S39) : ∀ (pre : List S39) (out : List S32), SetsOf pre out → (∀ r ∈ l, okN r.f0 = true) → SetsOf (pre ++ l) (l.foldl groupStep out) := by
  induction l with
  | nil => intro pre out h _; simpa using h
  | cons r l ih =>
    intro pre out h hr
    have := ih (pre ++ [r]) (groupStep out r) (setsOf_step h (hr r (by simp))) (fun q hq => hr q (by simp [hq]))
    rwa [List.append_assoc, List.singleton_append] at this
theorem setsOf_group (l : List S39) (h : ∀ r ∈ l, okN r.f0 = true) : SetsOf l (groupTo l l.length) := by
  unfold groupTo
  rw [List.take_length]
  exact setsOf_fold l [] [] ⟨by simp, by simp, by simp⟩ h
end Go.Proofs.Ytdkecfjeiookdaa.PA
-- printed out of the translation by the kit's print (wip/tools/given.py), and cut by wip/tools/trim.py: Lean checks it.
namespace Go.Proofs.Ytdkecfjeiookdaa.PA
open Go.RowKit Go.Proofs.YtdkecfjeiookdaaW.PrintWords Go.Proofs.YtdkecfjeiookdaaW.PrintLast Go.Proofs.YtdkecfjeiookdaaW.PrintMore
attribute [local go_sem] max2_int min2_int max_two min_two max_three min_three max_four min_four   -- for this text's walks alone
set_option linter.unusedVariables false
set_option linter.unusedSimpArgs false

/-! ### ostiarykit_LongRecs: function 15 -/
def ostiarykit_LongRecs.l0 : Nat → List (S39) → Int → Int → Int → Option (Bool)
  | 0, _, _, _, _ => none
  | k + 1, x0, x1, x5, x6 => if x6 < (x0.length : Int) then (if x5 ≤ 2000 then (if 0 ≤ x6 then (ostiarykit_LongRecs.l0 k x0 x1 (wrap64 ((wrap64 (x5 + (((rd_T39 x0 x6).f0).size : Int))) + (((rd_T39 x0 x6).f4).size : Int))) (wrap64 (x6 + 1))) else (none)) else (if (x0.length : Int) > x1 then (some true) else (some (decide (x5 > 2000))))) else (if (x0.length : Int) > x1 then (some true) else (some (decide (x5 > 2000))))
def ostiarykit_LongRecs.f (k : Nat) (l0 : List (S39)) (a1 : Int) : Option (Bool) := ostiarykit_LongRecs.l0 k l0 a1 0 0
set_option maxHeartbeats 8000000 in
set_option maxRecDepth 100000 in
theorem ostiarykit_LongRecs.calls (k : Nat) (A0 : Option Addr) (c0 : Nat) (l0 : List (S39)) (a1 : Int) (r : Bool) (w : World) (hr0 : Kd.C k39 w A0 l0.length l0) (hc0 : l0.length ≤ c0) (h : ostiarykit_LongRecs.f k l0 a1 = some r) :
    Calls Try.prog 15 #[.slice A0 l0.length c0, .int .i64 a1] w fun e w' => e = .returned (.bool r) ∧ Drawn0 w w' := by
  have HR0 := Aside0.mk hr0
  have HC0 := Aside0.mk hc0
  clear hr0 hc0
  have H : (ostiarykit_LongRecs.l0 k l0 a1 0 0) = some r := h
  clear h
  have H' := Aside0.mk H
  clear H
  go_enter Try.func15, Try.ntmps15
  go_wp2
  repeat (go_quiet (fail); try go_wp2)
  go_loopg [5, 6] k (fun kq v5 v6 w' => ∃ (x5_1 : Int) (x6_1 : Int), v5 = .int .i64 x5_1 ∧ v6 = .int .i64 x6_1 ∧ Aside0 (ostiarykit_LongRecs.l0 kq l0 a1 x5_1 x6_1 = some r) ∧ Aside0 (kq ≤ k) ∧ Drawn0 w w')
  case atStart => exact ⟨(0), (0), (by first | rfl | (simp; done) | (simp [*]; done)), (by first | rfl | (simp; done) | (simp [*]; done)), H', ⟨Nat.le_refl _⟩, by repeat (first | exact Drawn0.refl _ | apply Drawn0.step)⟩
  case round =>
    clear H'
    try clear c1
    try clear p2
    obtain ⟨x5_1, x6_1, rfl, rfl, HA, HK1, ⟨m1, rfl⟩⟩ := hrel
    cases gk with
    | zero => exact absurd HA.out (by simp [ostiarykit_LongRecs.l0])
    | succ k1 =>
      have H := HA.out
      clear HA
      simp only [ostiarykit_LongRecs.l0] at H
      by_cases c3 : x6_1 < (l0.length : Int)
      · rw [if_pos c3] at H
        have c3b0 : decide (x6_1 < (l0.length : Int)) = true := decide_eq_true c3
        clear c3
        by_cases c4 : x5_1 ≤ 2000
        · rw [if_pos c4] at H
          have c4b0 : decide (x5_1 ≤ 2000) = true := decide_eq_true c4
          clear c4
          by_cases c5 : 0 ≤ x6_1
          · rw [if_pos c5] at H
            have c5b0 : decide (0 ≤ x6_1) = true := decide_eq_true c5
            clear c5
            have H' := Aside0.mk H
            clear H
            have p101 : 0 ≤ (x6_1 : Int) := of_decide_eq_true (by first | (with_reducible assumption) | assumption)
            have q101 : x6_1 < (l0.length : Int) := of_decide_eq_true (by first | (with_reducible assumption) | assumption)
            obtain ⟨ad101, e101, hx101_0, hx101_1, hx101_2, hx101_3, hx101_4⟩ := at_T39 HR0.out x6_1 p101 q101
            cases e101
            replace p101 := eq_true p101
            replace q101 := eq_true q101
            have p102 : 0 ≤ (x6_1 : Int) := of_decide_eq_true (by first | (with_reducible assumption) | assumption)
            have q102 : x6_1 < (l0.length : Int) := of_decide_eq_true (by first | (with_reducible assumption) | assumption)
            obtain ⟨ad102, e102, hx102_0, hx102_1, hx102_2, hx102_3, hx102_4⟩ := at_T39 HR0.out x6_1 p102 q102
            obtain rfl : ad101 = ad102 := (by injection e102)
            replace p102 := eq_true p102
            replace q102 := eq_true q102
            go_wp2
            repeat (go_quiet (fail); try go_wp2)
            go_roundg k1
            case measure => have := HK1.out; omega
            case rel => exact ⟨(wrap64 ((wrap64 (x5_1 + (((rd_T39 l0 x6_1).f0).size : Int))) + (((rd_T39 l0 x6_1).f4).size : Int))), (wrap64 (x6_1 + 1)), (by first | rfl | (simp; done) | (simp [*]; done)), (by first | rfl | (simp; done) | (simp [*]; done)), H', ⟨by have := HK1.out; omega⟩, by repeat (first | exact Drawn0.refl _ | apply Drawn0.step)⟩
          · rw [if_neg c5] at H
            exact absurd H (by simp)
        · rw [if_neg c4] at H
          have c4b0 : decide (x5_1 ≤ 2000) = false := decide_eq_false c4
          clear c4
          by_cases c6 : (l0.length : Int) > a1
          · rw [if_pos c6] at H
            have c6b0 : decide (a1 < (l0.length : Int)) = true := decide_eq_true c6
            clear c6
            obtain rfl := Option.some.inj H
            go_wp2
            repeat (go_quiet (fail); try go_wp2)
            go_ret
            exact ⟨by first | rfl | (simp; done) | (simp [*]; done), by repeat (first | exact Drawn0.refl _ | apply Drawn0.step)⟩
          · rw [if_neg c6] at H
            have c6b0 : decide (a1 < (l0.length : Int)) = false := decide_eq_false c6
            clear c6
            obtain rfl := Option.some.inj H
            go_wp2
            repeat (go_quiet (fail); try go_wp2)
            go_ret
            exact ⟨by first | rfl | (simp; done) | (simp [*]; done), by repeat (first | exact Drawn0.refl _ | apply Drawn0.step)⟩
      · rw [if_neg c3] at H
        have c3b0 : decide (x6_1 < (l0.length : Int)) = false := decide_eq_false c3
        clear c3
        by_cases c7 : (l0.length : Int) > a1
        · rw [if_pos c7] at H
          have c7b0 : decide (a1 < (l0.length : Int)) = true := decide_eq_true c7
          clear c7
          obtain rfl := Option.some.inj H
          go_wp2
          repeat (go_quiet (fail); try go_wp2)
          go_ret
          exact ⟨by first | rfl | (simp; done) | (simp [*]; done), by repeat (first | exact Drawn0.refl _ | apply Drawn0.step)⟩
        · rw [if_neg c7] at H
          have c7b0 : decide (a1 < (l0.length : Int)) = false := decide_eq_false c7
          clear c7
          obtain rfl := Option.some.inj H
          go_wp2
          repeat (go_quiet (fail); try go_wp2)
          go_ret
          exact ⟨by first | rfl | (simp; done) | (simp [*]; done), by repeat (first | exact Drawn0.refl _ | apply Drawn0.step)⟩

end Go.Proofs.Ytdkecfjeiookdaa.PA
/- Plain words on lists of records: LongRecs, Least, and names that may be. -/
namespace Go.Proofs.Ytdkecfjeiookdaa.PA
open Go Go.RowKit Go.Proofs.YtdkecfjeiookdaaW.PrintWords Go.Proofs.YtdkecfjeiookdaaW.PrintLast Go.Proofs.Ytdkecfjeiookdaa.Ro
set_option linter.unusedVariables false

theorem getD_mem39 {l : List S39} {i : Nat} (h : i < l.length) : l.getD i z39 ∈ l := by
  rw [List.getD_eq_getElem?_getD, List.getElem?_eq_getElem h]
  exact List.getElem_mem h
theorem getD_mem32 {l : List S32} {i : Nat} (h : i < l.length) : l.getD i z32 ∈ l := by
  rw [List.getD_eq_getElem?_getD, List.getElem?_eq_getElem h]
  exact List.getElem_mem h
theorem okN_size {a : ByteArray} (h : okN a = true) : a.size ≤ 255 := by
  have h := of_decide_eq_true h
  unfold name_Check.f name_Labels.f at h
  split at h
  · split at h
    · split at h
      · cases h
      · rename_i h1 h2 h3; omega
    · cases h
  · cases h
theorem longRecs_loop (m : Int) (l : List S39) (hl : ∀ r ∈ l, OkRec r) (hl2 : l.length ≤ 1099511627776 * 8) (d : Nat) : ∀ (k i : Nat) (x : Int), i ≤ l.length → l.length - i = d → d < k → 0 ≤ x → x ≤ 562949953421312 →
    ∃ q, ostiarykit_LongRecs.l0 k l m x (i : Int) = some q ∧ (q = false → x ≤ 2000 ∧ (l.length : Int) ≤ m ∧ ∀ j, i ≤ j → j < l.length → (l.getD j z39).f0.size ≤ 2000 ∧ (l.getD j z39).f4.size ≤ 2000) := by
  have hr : reachBytes = 140737488351232 := by decide
  induction d with
  | zero =>
    intro k i x h1 h2 h3 h4 h5
    obtain ⟨k, rfl⟩ : ∃ j, k = j + 1 := ⟨k - 1, by omega⟩
    simp only [ostiarykit_LongRecs.l0]
    rw [if_neg (by omega)]
    by_cases hm : (l.length : Int) > m
    · exact ⟨true, by rw [if_pos hm], by simp⟩
    · refine ⟨decide (x > 2000), by rw [if_neg hm], fun h => ?_⟩
      have := of_decide_eq_false h
      exact ⟨by omega, by omega, fun j hj hj2 => by omega⟩
  | succ d ih =>
    intro k i x h1 h2 h3 h4 h5
    obtain ⟨k, rfl⟩ : ∃ j, k = j + 1 := ⟨k - 1, by omega⟩
    have hlt : i < l.length := by omega
    simp only [ostiarykit_LongRecs.l0]
    rw [if_pos (by omega)]
    by_cases hx : x ≤ 2000
    · rw [if_pos hx, if_pos (by omega)]
      have ho := hl _ (getD_mem39 hlt)
      have ho0 := ho.1
      have ho4 := ho.2.2.2.2
      have hrd : rd_T39 l (i : Int) = l.getD i z39 := rfl
      rw [hrd, show wrap64 ((i : Int) + 1) = ((i + 1 : Nat) : Int) from by unfold wrap64; omega]
      rw [show wrap64 (wrap64 (x + ((l.getD i z39).f0.size : Int)) + ((l.getD i z39).f4.size : Int)) = x + ((l.getD i z39).f0.size : Int) + ((l.getD i z39).f4.size : Int) from by unfold wrap64; omega]
      obtain ⟨q, hq, hqq⟩ := ih k (i + 1) (x + ((l.getD i z39).f0.size : Int) + ((l.getD i z39).f4.size : Int)) (by omega) (by omega) (by omega) (by omega) (by omega)
      refine ⟨q, hq, fun h => ?_⟩
      obtain ⟨a, b, c⟩ := hqq h
      refine ⟨by omega, b, fun j hj hj2 => ?_⟩
      by_cases e : j = i
      · subst e; constructor <;> omega
      · exact c j (by omega) hj2
    · rw [if_neg hx]
      by_cases hm : (l.length : Int) > m
      · exact ⟨true, by rw [if_pos hm], by simp⟩
      · exact ⟨decide (x > 2000), by rw [if_neg hm], fun h => by have := of_decide_eq_false h; omega⟩
theorem longRecs_tells (k : Nat) (m : Int) (l : List S39) (hl : ∀ r ∈ l, OkRec r) (hl2 : l.length * 56 ≤ reachBytes) (hk : l.length < k) :
    ∃ q, ostiarykit_LongRecs.f k l m = some q ∧ (q = false → (l.length : Int) ≤ m ∧ ∀ r ∈ l, r.f0.size ≤ 2000 ∧ r.f4.size ≤ 2000) := by
  have hr : reachBytes = 140737488351232 := by decide
  obtain ⟨q, hq, hqq⟩ := longRecs_loop m l hl (by omega) l.length k 0 0 (by omega) (by omega) hk (by omega) (by omega)
  refine ⟨q, hq, fun h => ?_⟩
  obtain ⟨_, a, b⟩ := hqq h
  refine ⟨a, fun r hr => ?_⟩
  obtain ⟨j, hj, rfl⟩ := List.getElem_of_mem hr
  have := b j (Nat.zero_le _) hj
  rwa [List.getD_eq_getElem?_getD, List.getElem?_eq_getElem hj] at this
end Go.Proofs.Ytdkecfjeiookdaa.PA
-- printed out of the translation by the kit's print (wip/tools/given.py), and cut by wip/tools/trim.py: Lean checks it.
namespace Go.Proofs.Ytdkecfjeiookdaa.PA
open Go.RowKit Go.Proofs.YtdkecfjeiookdaaW.PrintWords Go.Proofs.YtdkecfjeiookdaaW.PrintLast Go.Proofs.YtdkecfjeiookdaaW.PrintMore
attribute [local go_sem] max2_int min2_int max_two min_two max_three min_three max_four min_four   -- for this text's walks alone
set_option linter.unusedVariables false
set_option linter.unusedSimpArgs false

/-! ### ostiaryref22_Has: function 67 -/

/-! ### ostiaryref04_Labels: function 105 -/

/-! ### ostiaryref04_Check: function 72 -/

/-! ### ostiaryref22_number: function 73 -/

end Go.Proofs.Ytdkecfjeiookdaa.PA
