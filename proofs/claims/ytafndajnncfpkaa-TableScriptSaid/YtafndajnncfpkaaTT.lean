/- Contracts by hand: a table's Touch. -/
import Derived.Test.YtafndajnncfpkaaTI
import Derived.Test.YtafndajnncfpkaaTG
namespace Go.Proofs.Ytafndajnncfpkaa.Tt
open Go Go.RowKit Go.Maps Go.Proofs.YtafndajnncfpkaaW.PrintWords Go.Proofs.YtafndajnncfpkaaW.PrintLast Go.Proofs.YtafndajnncfpkaaW.PrintMore Go.Proofs.Ytafndajnncfpkaa.Mp Go.Proofs.Ytafndajnncfpkaa.Tm Go.Proofs.Ytafndajnncfpkaa.Tb Go.Proofs.Ytafndajnncfpkaa.Tc Go.Proofs.Ytafndajnncfpkaa.Ti Go.Proofs.Ytafndajnncfpkaa.Tg
attribute [local go_sem] max2_int min2_int max_two min_two
set_option linter.unusedVariables false
set_option linter.unusedSimpArgs false

theorem touch_nil (k now : Int) (w : World) : Calls Try.prog 11 #[.pointer none, .int .i64 k, .int .i64 now] w fun e w' => e = .returned (.tuple #[.int .i64 0, .bool false, .int .i64 1]) ∧ w = w' := by
  go_enter Try.func11, Try.ntmps11
  go_wp2_with (first | (go_at_call 25; (with_reducible refine (none_nil _).mono ?_); rintro e w' ⟨rfl, rfl⟩))
  go_ret3
  exact ⟨rfl, rfl⟩
theorem touch_zero (T : Nat) (k now : Int) (w : World) (h : w.cell? ⟨T, 0, none⟩ = some (.int .i64 0)) : Calls Try.prog 11 #[.pointer (some ⟨T, 0, none⟩), .int .i64 k, .int .i64 now] w fun e w' => e = .returned (.tuple #[.int .i64 0, .bool false, .int .i64 1]) ∧ w = w' := by
  go_enter Try.func11, Try.ntmps11
  go_wp2_with (first | (go_at_call 25; (with_reducible refine (none_at T 0 _ h).mono ?_); rintro e w' ⟨rfl, rfl⟩))
  go_ret3
  exact ⟨rfl, rfl⟩
set_option maxRecDepth 100000 in
set_option maxHeartbeats 1000000 in
theorem touch_bad (T b n : Nat) (most : Int) (L : List Cl) (k now : Int) (w : World) (h : TabAt w T b n most L) (hm : most ≠ 0) (hn : now < 0 ∨ 1099511627776 < now) : Calls Try.prog 11 #[.pointer (some ⟨T, 0, none⟩), .int .i64 k, .int .i64 now] w fun e w' => e = .returned (.tuple #[.int .i64 0, .bool false, .int .i64 2]) ∧ w = w' := by
  obtain ⟨c0, c1⟩ := h.cells
  have hm' : (most == 0) = false := beq_eq_false_iff_ne.2 hm
  by_cases h1 : now < 0
  · have h1' : decide (now < 0) = true := decide_eq_true h1
    go_enter Try.func11, Try.ntmps11
    go_wp2_with (first | (go_at_call 25; (with_reducible refine (none_at T most _ c0).mono ?_); rintro e w' ⟨rfl, rfl⟩))
    go_ret3
    exact ⟨rfl, rfl⟩
  · have h1' : decide (now < 0) = false := decide_eq_false h1
    have h2 : 1099511627776 < now := by omega
    have h2' : decide (1099511627776 < now) = true := decide_eq_true h2
    go_enter Try.func11, Try.ntmps11
    go_wp2_with (first | (go_at_call 25; (with_reducible refine (none_at T most _ c0).mono ?_); rintro e w' ⟨rfl, rfl⟩))
    go_ret3
    exact ⟨rfl, rfl⟩
/-- The later. -/
abbrev maxI (x y : Int) : Int := if x < y then y else x
/-- The clients, one of them touched. -/
def touchL (L : List Cl) (k : Int) (now : Int) : List Cl := L.map fun c => if c.1 = k then (c.1, maxI c.2.1 now, c.2.2) else c
theorem tabF_touch (L : List Cl) (k now : Int) (a : Int) : tabF (touchL L k now) a = if a = k then (tabF L a).map (fun x => (maxI x.1 now, x.2)) else tabF L a := by
  induction L with
  | nil => simp [touchL, tabF]
  | cons c L ih =>
    have e : touchL (c :: L) k now = (if c.1 = k then (c.1, maxI c.2.1 now, c.2.2) else c) :: touchL L k now := rfl
    rw [e, tabF_cons, tabF_cons, ih]
    by_cases h : c.1 = k
    · rw [if_pos h]
      by_cases h2 : c.1 = a
      · have h3 : a = k := h2.symm.trans h
        rw [if_pos h2, if_pos h2, if_pos h3]
        rfl
      · rw [if_neg h2, if_neg h2]
    · rw [if_neg h]
      by_cases h2 : c.1 = a
      · have h3 : a ≠ k := fun e => h (h2.trans e)
        rw [if_pos h2, if_pos h2, if_neg h3]
      · rw [if_neg h2, if_neg h2]
set_option maxRecDepth 100000 in
set_option maxHeartbeats 1000000 in
theorem touch_there (T b n : Nat) (most : Int) (L : List Cl) (k now : Int) (x : Int × Bool) (w : World) (h : TabAt w T b n most L) (hm : most ≠ 0) (hk : wfI k) (h1 : 0 ≤ now) (h2 : now ≤ 1099511627776) (hx : tabF L k = some x) (hn : n < maxLen) : Calls Try.prog 11 #[.pointer (some ⟨T, 0, none⟩), .int .i64 k, .int .i64 now] w fun e w' => e = .returned (.tuple #[.int .i64 0, .bool false, .int .i64 0]) ∧ TabAt w' T b (n + 1) most (touchL L k now) ∧ w.grownBy w' (some b) := by
  have hlt := h.lt
  obtain ⟨c0, c1⟩ := h.cells
  have HM := h.2
  have H := Lib.hid h
  have HK := Lib.hid (show (keyOf Try.prog 3 ((Value.int .i64) k)).isSome = true from by rw [keyZ hk]; rfl)
  have hm' : (most == 0) = false := beq_eq_false_iff_ne.2 hm
  have HX := Lib.hid hx
  have hne : T ≠ w.heap.size := by omega
  have h1' : decide (now < 0) = false := decide_eq_false (by omega)
  have h2' : decide (1099511627776 < now) = false := decide_eq_false (by omega)
  clear hx h
  go_enter Try.func11, Try.ntmps11
  go_upto_region 8 with (first | (go_at_call 25; (with_reducible refine (none_at T most _ c0).mono ?_); rintro e w' ⟨rfl, rfl⟩) | (at_lookup; (refine wpList_look _ rfl _ _ 52 rfl HM keyedI Try.underlying52 (zeroC _) rfl k rfl HK.out ?_); rw [HX.out]; (try simp only [encC])))

  obtain ⟨W', hrun, hm1, hm2⟩ := MapT.store (f' := tabF (touchL L k now)) ((MapT.alloc HM (.cells #[.int .i64 (maxI x.1 now), .bool x.2] 62)).drewN 1) keyedI Try.underlying52 hn HK.out (maxI x.1 now, x.2) (by rw [tabF_touch, if_pos rfl, HX.out]; rfl) (fun a ha => by rw [tabF_touch, if_neg (fun e => ha (encI_inj.2 e))]) (fun a ha => by rw [encI_inj.1 ha])
  have hrun' : (Instr.mapUpdate 52 (.map (some b)) (.int .i64 k) (.agg #[.int .i64 (maxI x.1 now), .bool x.2])).run Try.prog (w.alloc (Obj.cells #[Value.int IntKind.i64 (maxI x.fst now), Value.bool x.2] 62)).drew = .ok () W' := hrun
  clear hrun
  go_region
  rename_i hn1 _ hnext
  refine hnext _ _ ?_
  clear hnext
  go_wp2
  all_goals
    go_ret3
    have hg := ((World.grownBy_alloc w _ (some b)).trans (grown_drewN _ 1 (some b))).trans hm2.grown
    exact ⟨rfl, ⟨(hg.block T hlt.1 (by simpa using (Ne.symm H.out.ne))).trans H.out.1, hm1⟩, hg⟩
theorem tabF_del (L : List Cl) (k a : Int) : tabF (L.filter fun c => decide (c.1 ≠ k)) a = if a = k then none else tabF L a := by
  induction L with
  | nil => simp [tabF]
  | cons c L ih =>
    by_cases h : c.1 = k
    · rw [List.filter_cons_of_neg (by simpa using h), ih, tabF_cons]
      by_cases h2 : a = k
      · rw [if_pos h2, if_pos h2]
      · rw [if_neg h2, if_neg h2, if_neg (fun e => h2 (e.symm.trans h))]
    · rw [List.filter_cons_of_pos (by simpa using h), tabF_cons, ih, tabF_cons]
      by_cases h2 : c.1 = a
      · rw [if_pos h2, if_pos h2, if_neg (fun e => h (h2.trans e))]
      · rw [if_neg h2, if_neg h2]
set_option maxRecDepth 100000 in
set_option maxHeartbeats 1000000 in
theorem touch_room (T b n : Nat) (most : Int) (L : List Cl) (k now : Int) (w : World) (h : TabAt w T b n most L) (hL : WfL L) (hm : most ≠ 0) (hk : wfI k) (h1 : 0 ≤ now) (h2 : now ≤ 1099511627776) (hx : tabF L k = none) (hn : n < maxLen) (hr : (L.length : Int) < most) : Calls Try.prog 11 #[.pointer (some ⟨T, 0, none⟩), .int .i64 k, .int .i64 now] w fun e w' => e = .returned (.tuple #[.int .i64 0, .bool false, .int .i64 0]) ∧ TabAt w' T b (n + 1) most ((k, now, false) :: L) ∧ w.grownBy w' (some b) := by
  have hlt := h.lt
  obtain ⟨c0, c1⟩ := h.cells
  have HM := h.2
  have H := Lib.hid h
  have HK := Lib.hid (show (keyOf Try.prog 3 ((Value.int .i64) k)).isSome = true from by rw [keyZ hk]; rfl)
  have hm' : (most == 0) = false := beq_eq_false_iff_ne.2 hm
  have HX := Lib.hid hx
  have hne : T ≠ w.heap.size := by omega
  have h1' : decide (now < 0) = false := decide_eq_false (by omega)
  have h2' : decide (1099511627776 < now) = false := decide_eq_false (by omega)
  have hr' : decide ((L.length : Int) < most) = true := decide_eq_true hr
  obtain ⟨D, hD, _, hs⟩ := h.2.data hL
  have HD := Lib.hid ((hD.alloc (.cells #[.int .i64 0, .bool false] 62)))
  have HS := Lib.hid hs
  clear hx h hD hs hr
  go_enter Try.func11, Try.ntmps11
  go_upto_region 10 with (first | (go_at_call 25; (with_reducible refine (none_at T most _ c0).mono ?_); rintro e w' ⟨rfl, rfl⟩) | (at_lookup; (refine wpList_look _ rfl _ _ 52 rfl HM keyedI Try.underlying52 (zeroC _) rfl k rfl HK.out ?_); rw [HX.out]; (try simp only [encC])))
  go_cut [53] (fun v W => v = .bool true ∧ W = (w.alloc (Obj.cells #[Value.int IntKind.i64 0, Value.bool false] 62)).drew)
  case first =>
    go_region_law (refine step_len_map rfl _ _ rfl 3 62 Try.underlying52 heldR b n D rfl HD.out ?_; rw [HS.out])
    all_goals
      go_wp2_with fail
      go_meet
      exact ⟨rfl, rfl⟩
  case rest =>
    obtain ⟨rfl, rfl⟩ := hcut
    have HM2 := Lib.hid ((MapT.alloc HM (.cells #[.int .i64 0, .bool false] 62)).drewN 1)
    go_wp2_with (first | (at_mapUpdate; refine wpList_store _ rfl _ _ _ _ rfl HM2.out keyedI Try.underlying52 hn rfl k rfl HK.out (now, false) rfl (tabF ((k, now, false) :: L)) (by rw [tabF_cons, if_pos rfl]) (fun a ha => by rw [tabF_cons, if_neg (fun e => ha (encI_inj.2 e.symm))]) (fun a ha => by rw [encI_inj.1 ha]) ?_; intro W' hm1 hm2))
    go_ret3
    have hg := ((World.grownBy_alloc w _ (some b)).trans (grown_drewN _ 1 (some b))).trans hm2.grown
    exact ⟨rfl, ⟨(hg.block T hlt.1 (by simpa using (Ne.symm H.out.ne))).trans H.out.1, hm1⟩, hg⟩
theorem goes_wf {L : List Cl} (hL : WfL L) {out : Int} {gone : Bool} (h : GoesP L out gone) (hg : gone = true) : (keyOf Try.prog 3 ((Value.int .i64) out)).isSome = true := by
  rcases h with ⟨h, _⟩ | ⟨_, h, _⟩
  · rw [h] at hg
    cases hg
  · obtain ⟨c, hc, rfl⟩ := List.mem_map.1 h
    rw [keyZ (hL.2 c hc)]
    rfl
theorem of_not {g : Bool} (h : (!g) = false) : g = true := by cases g <;> first | rfl | cases h
theorem of_not' {g : Bool} (h : (!g) = true) : g = false := by cases g <;> first | rfl | cases h
/-- What a full table becomes. -/
def fullL (L : List Cl) (k now out : Int) : List Cl := (k, now, false) :: L.filter fun c => decide (c.1 ≠ out)
set_option maxRecDepth 100000 in
set_option maxHeartbeats 2000000 in
theorem touch_full (T b n : Nat) (most : Int) (L : List Cl) (k now : Int) (w : World) (h : TabAt w T b n most L) (hL : WfL L) (hm : most ≠ 0) (hk : wfI k) (h1 : 0 ≤ now) (h2 : now ≤ 1099511627776) (hx : tabF L k = none) (hn : n < maxLen) (hr : ¬ (L.length : Int) < most) (hlen : L.length ≤ 1024) (hne : L ≠ []) : Calls Try.prog 11 #[.pointer (some ⟨T, 0, none⟩), .int .i64 k, .int .i64 now] w fun e w' => ∃ (out : Int) (gone : Bool), GoesP L out gone ∧ w.grownBy w' (some b) ∧ (gone = false → e = .returned (.tuple #[.int .i64 0, .bool false, .int .i64 8]) ∧ TabAt w' T b n most L) ∧ (gone = true → e = .returned (.tuple #[.int .i64 out, .bool true, .int .i64 0]) ∧ TabAt w' T b (n + 1) most (fullL L k now out)) := by
  have hlt := h.lt
  obtain ⟨c0, c1⟩ := h.cells
  have HM := h.2
  have H := Lib.hid h
  have HK := Lib.hid (show (keyOf Try.prog 3 ((Value.int .i64) k)).isSome = true from by rw [keyZ hk]; rfl)
  have hm' : (most == 0) = false := beq_eq_false_iff_ne.2 hm
  have HX := Lib.hid hx
  have hne0 : T ≠ w.heap.size := by omega
  have h1' : decide (now < 0) = false := decide_eq_false (by omega)
  have h2' : decide (1099511627776 < now) = false := decide_eq_false (by omega)
  have hr' : decide ((L.length : Int) < most) = false := decide_eq_false hr
  obtain ⟨D, hD, _, hs⟩ := h.2.data hL
  have HD := Lib.hid ((hD.alloc (.cells #[.int .i64 0, .bool false] 62)))
  have HS := Lib.hid hs
  clear hx h hD hs hr
  go_enter Try.func11, Try.ntmps11
  go_upto_region 10 with (first | (go_at_call 25; (with_reducible refine (none_at T most _ c0).mono ?_); rintro e w' ⟨rfl, rfl⟩) | (at_lookup; (refine wpList_look _ rfl _ _ 52 rfl HM keyedI Try.underlying52 (zeroC _) rfl k rfl HK.out ?_); rw [HX.out]; (try simp only [encC])))
  go_cut [53] (fun v W => v = .bool false ∧ W = (w.alloc (Obj.cells #[Value.int IntKind.i64 0, Value.bool false] 62)).drew)
  case first =>
    go_region_law (refine step_len_map rfl _ _ rfl 3 62 Try.underlying52 heldR b n D rfl HD.out ?_; rw [HS.out])
    all_goals
      go_wp2_with fail
      go_meet
      exact ⟨rfl, rfl⟩
  case rest =>
    obtain ⟨rfl, rfl⟩ := hcut
    have HT2 := Lib.hid ((H.out.alloc (.cells #[.int .i64 0, .bool false] 62)).drewN 1)
    have HG2 := Lib.hid ((World.grownBy_alloc w (.cells #[.int .i64 0, .bool false] 62) (some b)).trans (grown_drewN _ 1 (some b)))
    clear c0 c1 HM HD
    have hw2 : (w.alloc (Obj.cells #[Value.int IntKind.i64 0, Value.bool false] 62)).drew = (w.alloc (Obj.cells #[Value.int IntKind.i64 0, Value.bool false] 62)).drewN 1 := rfl
    rw [hw2]
    generalize (w.alloc (Obj.cells #[Value.int IntKind.i64 0, Value.bool false] 62)).drewN 1 = w2 at *
    go_wp2_with (first
      | (go_at_call 26; refine (goes_at T b n most L _ HT2.out hL hm hlen hne).mono ?_; rintro e w3 ⟨out, gone, rfl, hG, hB⟩
         have HG := Lib.hid hG
         have HT3 := Lib.hid (HT2.out.below hB)
         have HG3 := Lib.hid (HG2.out.trans ⟨hB.os, hB.tape, hB.output, hB.size, fun i hi _ => hB.block i hi⟩)
         obtain ⟨d0, d1⟩ := HT3.out.cells
         have hlt3 := HT3.out.lt
         clear hG hB)
      | (at_delete; refine wpList_drop _ rfl _ _ _ rfl HT3.out.2 keyedI Try.underlying52 rfl out rfl (goes_wf hL HG.out (of_not (by assumption))) (tabF (L.filter fun c => decide (c.1 ≠ out))) (fun a ha => by rw [tabF_del, if_pos (encI_inj.1 ha)]) (fun a ha => by rw [tabF_del, if_neg (fun e => ha (encI_inj.2 e))]) ?_; intro W4 hm3 hm4
         have hb4 := hm4.grown.block T hlt3.1 (by simpa using (Ne.symm HT3.out.ne))
         have HM4 := Lib.hid hm3
         have HT4 := Lib.hid (hb4.trans HT3.out.1)
         have HG4 := Lib.hid (HG3.out.trans hm4.grown)
         have d2 : W4.cell? ⟨T, 1, none⟩ = some (.map (some b)) := by simp [World.cell?, HT4.out]
         clear hm3 hm4 hb4)
      | (at_mapUpdate; refine wpList_store _ rfl _ _ _ _ rfl HM4.out keyedI Try.underlying52 hn rfl k rfl HK.out (now, false) rfl (tabF (fullL L k now out)) (by rw [fullL, tabF_cons, if_pos rfl]) (fun a ha => by rw [fullL, tabF_cons, if_neg (fun e => ha (encI_inj.2 e.symm))]) (fun a ha => by rw [encI_inj.1 ha]) ?_; intro W5 hm5 hm6))
    · rename_i hq
      go_ret3
      refine ⟨out, gone, HG.out, HG3.out, fun _ => ⟨rfl, HT3.out⟩, fun e => ?_⟩
      rw [of_not' hq] at e
      cases e
    · rename_i hq
      go_ret3
      refine ⟨out, gone, HG.out, HG4.out.trans hm6.grown, fun e => ?_, fun _ => ⟨rfl, (hm6.grown.block T (by first | exact (Array.getElem?_eq_some_iff.1 HT4.out).1) (by simpa using (Ne.symm HT3.out.ne))).trans HT4.out, hm5⟩⟩
      rw [of_not hq] at e
      cases e
end Go.Proofs.Ytafndajnncfpkaa.Tt
