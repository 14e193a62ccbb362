/- TableTurns: the plain law; Pick. -/
import Derived.Test.YtafndajnncfpkaaTZ
namespace Go.Proofs.Ytafndajnncfpkaa.Tu
open Go Go.RowKit Go.Maps Go.Sort Go.Shelf Go.Proofs.YtafndajnncfpkaaW.PrintWords Go.Proofs.YtafndajnncfpkaaW.PrintLast Go.Proofs.YtafndajnncfpkaaW.PrintMore Go.Proofs.Ytafndajnncfpkaa.Mp Go.Proofs.Ytafndajnncfpkaa.Tm Go.Proofs.Ytafndajnncfpkaa.Tb Go.Proofs.Ytafndajnncfpkaa.Tc Go.Proofs.Ytafndajnncfpkaa.Ti Go.Proofs.Ytafndajnncfpkaa.Tg Go.Proofs.Ytafndajnncfpkaa.Tt Go.Proofs.Ytafndajnncfpkaa.Ts Go.Proofs.Ytafndajnncfpkaa.Tz
set_option linter.unusedVariables false
set_option linter.unusedSimpArgs false
/-- The client that came as number j. -/
def cl (j : Nat) : Cl := (1000 - (j : Int), (j : Int), true)
/-- Who is there behind i rounds. -/
def TL (m i : Nat) : List Cl := ((List.range' (i - m) (min i m)).map cl).reverse
theorem TL_len (m i : Nat) : (TL m i).length = min i m := by simp [TL]
theorem TL_mem {m i : Nat} {c : Cl} : c ∈ TL m i ↔ ∃ j, i - m ≤ j ∧ j < i ∧ c = cl j := by
  unfold TL
  rw [List.mem_reverse, List.mem_map]
  constructor
  · rintro ⟨j, hj, rfl⟩
    rw [List.mem_range'_1] at hj
    exact ⟨j, by omega, by omega, rfl⟩
  · rintro ⟨j, h1, h2, rfl⟩
    exact ⟨j, List.mem_range'_1.2 (by omega), rfl⟩
theorem TL_none (m i : Nat) : tabF (TL m i) (1000 - (i : Int)) = none := by
  rw [tabF_none]
  intro h
  obtain ⟨c, hc, e⟩ := List.mem_map.1 h
  obtain ⟨j, h1, h2, rfl⟩ := TL_mem.1 hc
  simp only [cl] at e
  omega
theorem TL_wf (m i : Nat) (hi : i ≤ 1000) : WfL (TL m i) := by
  constructor
  · unfold TL
    rw [List.map_reverse, List.map_map]
    refine (List.reverse_perm _).nodup_iff.2 ?_
    refine List.pairwise_map.2 ((List.nodup_range' (step := 1) (by omega)).imp fun {a b} h e => h ?_)
    simp only [cl, Function.comp] at e
    omega
  · intro c hc
    obtain ⟨j, h1, h2, rfl⟩ := TL_mem.1 hc
    exact (wfI_iff _).2 (by simp only [cl]; omega)
theorem TL_goes (m i : Nat) (hi : i ≤ 1000) (hm : 1 ≤ m) (h : m ≤ i) : goesF (TL m i) = (1000 - ((i - m : Nat) : Int), true) := by
  have hw := TL_wf m i hi
  have hin : cl (i - m) ∈ TL m i := TL_mem.2 ⟨i - m, Nat.le_refl _, by omega, rfl⟩
  refine goes_eq hw (Or.inr ⟨rfl, List.mem_map.2 ⟨_, hin, rfl⟩, ?_, fun c hc _ => ?_⟩)
  · have := idleOf_mem hw hin
    exact this
  · obtain ⟨j, h1, h2, rfl⟩ := TL_mem.1 hc
    have a1 := atOf_mem hw hc
    have a2 : atOf (TL m i) (1000 - ((i - m : Nat) : Int)) = ((i - m : Nat) : Int) := atOf_mem hw hin
    unfold Ahead
    rw [a1, a2]
    simp only [cl]
    omega
theorem TL_idle (l : List Cl) (hl : ∀ c ∈ l, c.2.2 = true) (k now : Int) : idleL ((k, now, false) :: l) k true = (k, now, true) :: l := by
  unfold idleL
  rw [List.map_cons, if_pos rfl]
  congr 1
  refine (List.map_congr_left (g := id) fun c hc => ?_).trans (List.map_id l)
  have := hl c hc
  obtain ⟨a, b, d⟩ := c
  simp only at this
  subst this
  simp
theorem TL_true (m i : Nat) : ∀ c ∈ TL m i, c.2.2 = true := fun c hc => by
  obtain ⟨j, _, _, rfl⟩ := TL_mem.1 hc
  rfl
theorem TL_less (m i : Nat) (h : i < m) : TL m (i + 1) = cl i :: TL m i := by
  unfold TL
  rw [show min (i + 1) m = min i m + 1 by omega, show i + 1 - m = i - m by omega, List.range'_concat, List.map_append, List.reverse_append]
  rw [show i - m + 1 * min i m = i by omega]
  rfl
theorem TL_more (m i : Nat) (hm : 1 ≤ m) (h : m ≤ i) : TL m (i + 1) = cl i :: (TL m i).filter fun c => decide (c.1 ≠ 1000 - ((i - m : Nat) : Int)) := by
  have e1 : TL m i = ((List.range' (i - m + 1) (m - 1)).map cl).reverse ++ [cl (i - m)] := by
    unfold TL
    rw [show min i m = (m - 1) + 1 by omega, List.range'_succ, List.map_cons, List.reverse_cons]
  have e2 : TL m (i + 1) = cl i :: ((List.range' (i - m + 1) (m - 1)).map cl).reverse := by
    unfold TL
    rw [show min (i + 1) m = (m - 1) + 1 by omega, show i + 1 - m = i - m + 1 by omega, List.range'_concat, List.map_append, List.reverse_append]
    rw [show i - m + 1 + 1 * (m - 1) = i by omega]
    rfl
  rw [e1, e2, List.filter_append]
  have h1 : ([cl (i - m)] : List Cl).filter (fun c => decide (c.1 ≠ 1000 - ((i - m : Nat) : Int))) = [] := by
    rw [List.filter_cons_of_neg (by simp [cl])]
    rfl
  have h2 : ((List.range' (i - m + 1) (m - 1)).map cl).reverse.filter (fun c => decide (c.1 ≠ 1000 - ((i - m : Nat) : Int))) = ((List.range' (i - m + 1) (m - 1)).map cl).reverse := List.filter_eq_self.2 fun c hc => by
    rw [List.mem_reverse, List.mem_map] at hc
    obtain ⟨j, hj, rfl⟩ := hc
    rw [List.mem_range'_1] at hj
    exact decide_eq_true (by simp only [cl]; omega)
  rw [h1, h2, List.append_nil]
theorem TL_touch (m i : Nat) (hi : i ≤ 1000) (hm : 1 ≤ m) : touchV (m : Int) (TL m i) (1000 - (i : Int)) (i : Int) = (if i < m then (0, false, 0) else (1000 - ((i - m : Nat) : Int), true, 0)) ∧ idleS (touchS (m : Int) (TL m i) (1000 - (i : Int)) (i : Int)) (1000 - (i : Int)) true = TL m (i + 1) ∧ idleV (touchS (m : Int) (TL m i) (1000 - (i : Int)) (i : Int)) (1000 - (i : Int)) = 0 := by
  have hb : ¬ badT (i : Int) = true := by
    simp [badT]
    omega
  have hn : ¬ (tabF (TL m i) (1000 - (i : Int))).isSome = true := by rw [TL_none]; simp
  by_cases h : i < m
  · have hl : ((TL m i).length : Int) < (m : Int) := by rw [TL_len]; omega
    have hS : touchS (m : Int) (TL m i) (1000 - (i : Int)) (i : Int) = (1000 - (i : Int), (i : Int), false) :: TL m i := by rw [touchS, if_neg hb, if_neg hn, if_pos hl]
    have hI : (tabF ((1000 - (i : Int), (i : Int), false) :: TL m i) (1000 - (i : Int))).isSome = true := by rw [tabF_cons, if_pos rfl]; rfl
    rw [hS, touchV, if_neg hb, if_neg hn, if_pos hl, if_pos h, idleS, if_pos hI, idleV, if_pos hI, TL_idle _ (TL_true m i), TL_less m i h]
    exact ⟨rfl, rfl, rfl⟩
  · have hl : ¬ ((TL m i).length : Int) < (m : Int) := by rw [TL_len]; omega
    have hg := TL_goes m i hi hm (by omega)
    have hS : touchS (m : Int) (TL m i) (1000 - (i : Int)) (i : Int) = fullL (TL m i) (1000 - (i : Int)) (i : Int) (1000 - ((i - m : Nat) : Int)) := by rw [touchS, if_neg hb, if_neg hn, if_neg hl, hg, if_pos rfl]
    have hI : (tabF (fullL (TL m i) (1000 - (i : Int)) (i : Int) (1000 - ((i - m : Nat) : Int))) (1000 - (i : Int))).isSome = true := by rw [fullL, tabF_cons, if_pos rfl]; rfl
    rw [hS, touchV, if_neg hb, if_neg hn, if_neg hl, if_neg h, hg, if_pos rfl, idleS, if_pos hI, idleV, if_pos hI, fullL, TL_idle _ (fun c hc => TL_true m i c (List.mem_filter.1 hc).1), TL_more m i hm (by omega)]
    exact ⟨rfl, rfl, rfl⟩
theorem pick (x n : Int) (w : World) (hx : wfI x) (h1 : 1 ≤ n) (h2 : n ≤ 1000) : Calls Try.prog 9 #[.int .i64 x, .int .i64 n] w fun e w' => (∃ r : Int, e = .returned (.int .i64 r) ∧ 0 ≤ r ∧ r < n) ∧ w = w' := by
  have h0 : decide (n < 1) = false := decide_eq_false (by omega)
  have hz : (n == 0) = false := beq_eq_false_iff_ne.2 (by omega)
  go_enter Try.func9, Try.ntmps9
  go_wp2
  all_goals
    rename_i hq
    have b1 : x.tmod n < n := Int.tmod_lt_of_pos x (by omega)
    have b2 : -n < x.tmod n := by
      have := Int.lt_tmod_of_pos x (show 0 < n by omega)
      omega
    go_ret
    refine ⟨⟨_, rfl, ?_, ?_⟩, rfl⟩
  · unfold wrap64
    omega
  · unfold wrap64
    omega
  · exact hq
  · exact b1
set_option maxRecDepth 100000 in
set_option maxHeartbeats 2000000 in
theorem turns_law (a0 a1 : Int) (w : World) (hw0 : wfI a0) (hw1 : wfI a1) : Calls Try.prog 3 #[.int .i64 a0, .int .i64 a1] w fun e w' => e = .returned (.bool true) ∧ Below w.heap.size w w' := by
  go_enter Try.func3, Try.ntmps3
  go_upto_region 3 with (first
    | (go_at_call 8; (with_reducible refine (awake _).mono ?_); rintro e w1 ⟨rfl, hb⟩; have HB1 := Lib.hid hb; clear hb)
    | (go_at_call 9; (with_reducible refine (pick a0 30 _ hw0 (by omega) (by omega)).mono ?_); rintro e w2 ⟨⟨m0, rfl, hm0, hm1⟩, rfl⟩)
    | (go_at_call 9; (with_reducible refine (pick a1 100 _ hw1 (by omega) (by omega)).mono ?_); rintro e w3 ⟨⟨m1, rfl, hn0, hn1⟩, rfl⟩))
  obtain ⟨m, hm⟩ : ∃ m : Nat, 1 + m0 = (m : Int) := ⟨(1 + m0).toNat, by omega⟩
  obtain ⟨q, rfl⟩ : ∃ q : Nat, m1 = (q : Int) := ⟨m1.toNat, by omega⟩
  rw [hm]
  have hm1' : 1 ≤ m := by omega
  have hm2 : m ≤ 30 := by omega
  have hq : q < 100 := by omega
  clear hm hm0 hm1 hn0 hn1
  go_wp2_with (first
    | (go_at_call 10; (with_reducible refine (new_st (m : Int) _ (by omega) (by omega)).mono ?_); rintro e w4 ⟨T, b, rfl, h0, hT, hb, hB⟩; have HT0 := Lib.hid h0; have HB2 := Lib.hid (below_then HB1.out HB1.out.size hB); have hb' := Nat.le_trans HB1.out.size hb; clear h0 hB))
  go_loopg [8] q (fun kq v wr => ∃ i : Nat, i + kq = q ∧ v = .int .i64 (i : Int) ∧ St wr T b (2 * i) (m : Int) (TL m i) ∧ Below w.heap.size w wr)
  case atStart => exact ⟨0, by omega, rfl, HT0.out, HB2.out⟩
  case round =>
    obtain ⟨i, hi, rfl, hS, hB⟩ := hrel
    have HS := Lib.hid hS
    have HB := Lib.hid hB
    have hlen := TL_len m i
    clear hS hB
    by_cases hiq : i < q
    · obtain ⟨k, rfl⟩ : ∃ k, gk = k + 1 := ⟨gk - 1, by omega⟩
      have d1 : decide ((i : Int) < (q : Int)) = true := decide_eq_true (by omega)
      obtain ⟨t1, t2, t3⟩ := TL_touch m i (by omega) hm1'
      generalize hL1 : touchS (m : Int) (TL m i) (1000 - (i : Int)) (i : Int) = L1 at *
      have HL1 := Lib.hid hL1
      have T2 := Lib.hid t2
      clear hL1 t2
      by_cases him : i < m
      · have d2 : decide ((m : Int) ≤ (i : Int)) = false := decide_eq_false (by omega)
        rw [if_pos him] at t1
        go_wp2_with (first
          | (go_at_call 11; (with_reducible refine (touch_st HS.out (1000 - (i : Int)) (i : Int) (wfS _ (by omega)) (small _ (by omega))).mono ?_); rintro e w5 ⟨rfl, ht, hg⟩; rw [t1]; rw [HL1.out] at ht; have HT1 := Lib.hid ht; have HB5 := Lib.hid (below_row HB.out hg hb'); clear ht hg)
          | (go_at_call 12; (with_reducible refine (idle_st HT1.out (1000 - (i : Int)) true (wfS _ (by omega)) (small _ (by omega))).mono ?_); rintro e w6 ⟨rfl, ht, hg⟩; rw [t3]; rw [T2.out] at ht; have HT2 := Lib.hid ht; have HB6 := Lib.hid (below_row HB5.out hg hb'); clear ht hg))
        go_roundg k
        case measure => omega
        case rel => exact ⟨i + 1, by omega, by first | rfl | (simp; done), HT2.out.mono (by omega), HB6.out⟩
      · have d2 : decide ((m : Int) ≤ (i : Int)) = true := decide_eq_true (by omega)
        rw [if_neg him, show (1000 : Int) - ((i - m : Nat) : Int) = 1000 - (i : Int) + (m : Int) by omega] at t1
        go_wp2_with (first
          | (go_at_call 11; (with_reducible refine (touch_st HS.out (1000 - (i : Int)) (i : Int) (wfS _ (by omega)) (small _ (by omega))).mono ?_); rintro e w5 ⟨rfl, ht, hg⟩; rw [t1]; rw [HL1.out] at ht; have HT1 := Lib.hid ht; have HB5 := Lib.hid (below_row HB.out hg hb'); clear ht hg)
          | (go_at_call 12; (with_reducible refine (idle_st HT1.out (1000 - (i : Int)) true (wfS _ (by omega)) (small _ (by omega))).mono ?_); rintro e w6 ⟨rfl, ht, hg⟩; rw [t3]; rw [T2.out] at ht; have HT2 := Lib.hid ht; have HB6 := Lib.hid (below_row HB5.out hg hb'); clear ht hg))
        go_roundg k
        case measure => omega
        case rel => exact ⟨i + 1, by omega, by first | rfl | (simp; done), HT2.out.mono (by omega), HB6.out⟩
    · obtain rfl : i = q := by omega
      have d1 : decide ((i : Int) < (i : Int)) = false := decide_eq_false (by omega)
      by_cases hmi : (i : Int) < (m : Int)
      · have d3 : ((TL m i).length : Int) = (i : Int) := by rw [hlen]; omega
        go_wp2_with (first
          | (go_at_call 13; (with_reducible refine (len_st HS.out).mono ?_); rintro e w5 ⟨rfl, rfl⟩; rw [d3]))
        go_ret
        refine ⟨?_, HB.out⟩
        have e : min (m : Int) (i : Int) = (i : Int) := by omega
        show Ending.returned (.bool ((i : Int) == min (m : Int) (i : Int))) = _
        rw [e, beq_self_eq_true]
      · have d3 : ((TL m i).length : Int) = (m : Int) := by rw [hlen]; omega
        go_wp2_with (first
          | (go_at_call 13; (with_reducible refine (len_st HS.out).mono ?_); rintro e w5 ⟨rfl, rfl⟩; rw [d3]))
        go_ret
        refine ⟨?_, HB.out⟩
        have e : min (m : Int) (i : Int) = (m : Int) := by omega
        show Ending.returned (.bool ((m : Int) == min (m : Int) (i : Int))) = _
        rw [e, beq_self_eq_true]
end Go.Proofs.Ytafndajnncfpkaa.Tu
namespace Go.Proofs.Ytafndajnncfpkaa.PA
open Go Go.RowKit
set_option linter.unusedVariables false
theorem ostiarylaw20_TableTurns.calls (a0 a1 : Int) (w : World) (h0 : (Lit.int .i64 a0).wf = true) (h1 : (Lit.int .i64 a1).wf = true) : Calls Try.prog 3 #[.int .i64 a0, .int .i64 a1] w fun e w' => e = .returned (.bool true) ∧ Below w.heap.size w w' := Tu.turns_law a0 a1 w h0 h1
end Go.Proofs.Ytafndajnncfpkaa.PA
