/- TableGoes. -/
import Derived.Outline
import Derived.Lib.Hide
import Derived.Deep.RegionHeld3
import Derived.Deep.RegionWith
import Derived.RangeFuncOwn
import Derived.Test.YtafndajnncfpkaaWTab
import Derived.Test.YtafndajnncfpkaaTX
import Derived.Test.YtafndajnncfpkaaRB
namespace Go.Proofs.Ytafndajnncfpkaa.Ty
open Go Go.RowKit Go.Maps Go.Sort Go.Shelf Go.Proofs.YtafndajnncfpkaaW.PrintWords Go.Proofs.YtafndajnncfpkaaW.PrintLast Go.Proofs.YtafndajnncfpkaaW.PrintMore Go.Proofs.Ytafndajnncfpkaa.Mp Go.Proofs.Ytafndajnncfpkaa.Tm Go.Proofs.Ytafndajnncfpkaa.Tb Go.Proofs.Ytafndajnncfpkaa.Tc Go.Proofs.Ytafndajnncfpkaa.Ta Go.Proofs.Ytafndajnncfpkaa.Ti Go.Proofs.Ytafndajnncfpkaa.Tg Go.Proofs.Ytafndajnncfpkaa.Tt Go.Proofs.Ytafndajnncfpkaa.Ts Go.Proofs.Ytafndajnncfpkaa.Tz Go.Proofs.Ytafndajnncfpkaa.Tq Go.Proofs.Ytafndajnncfpkaa.Tv Go.Proofs.Ytafndajnncfpkaa.Tw Go.Proofs.Ytafndajnncfpkaa.Tx
set_option linter.unusedVariables false
set_option linter.unusedSimpArgs false
theorem bmap_new (w : World) : BMap (w.alloc (.map #[] 0)) w.heap.size 0 (fun _ => none) := MapT.made w _ _ _ _
theorem idle_nil (k : Int) : idleOf [] k = false := rfl
theorem all_c {W : World} {T b n : Nat} {most : Int} {L : List Cl} (h : St W T b n most L) : Calls Try.prog 20 #[.pointer (some ⟨T, 0, none⟩)] W fun e w' => ∃ (A : Option Addr) (c : Nat), e = .returned (.slice A (sortL L).length c) ∧ IntsAt w' A (sortL L) ∧ (∀ ad, A = some ad → W.heap.size ≤ ad.block) ∧ Below W.heap.size W w' := by
  refine (all_st h).mono ?_
  rintro e w' ⟨v, rfl, ho, _, hB⟩
  rcases ho.2 with ⟨hv, h0⟩ | ⟨g, cap, cur, hv, hg, _⟩
  · subst hv
    exact ⟨none, 0, by rw [sortL_len, h0], (fun j hj => absurd hj (by rw [sortL_len]; omega)), (fun _ h => by cases h), hB⟩
  · subst hv
    exact ⟨_, cap, by rw [sortL_len], ints_row ho, (fun ad h => by cases h; exact hg), hB⟩
theorem ints_kept {w w1 : World} {A : Option Addr} {l : List Int} {b n : Nat} {L : List Cl} (h : IntsAt w A l) (hM : TMap w b n L) (hg : w.grownBy w1 (some b)) : IntsAt w1 A l := by
  intro j hj
  obtain ⟨ad, rfl, hc⟩ := h j hj
  refine ⟨ad, rfl, cell_kept hc hg (fun r e => ?_)⟩
  obtain ⟨es, c, hb⟩ := MapT.isMap hM
  cases e
  exact ⟨_, hb, rfl⟩
theorem ints_drewN {w : World} {A : Option Addr} {l : List Int} (h : IntsAt w A l) (n : Nat) : IntsAt (w.drewN n) A l := h
theorem below_drewN {B : Nat} {a w : World} (h : Below B a w) (n : Nat) : Below B a (w.drewN n) := below_drewN'' h n
theorem idle_set {L L' : List Cl} {f : Int → Option Bool} {k : Int} {is : Bool} (h : ∀ j, (f j).getD false = idleOf L j) (h' : ∀ j, idleOf L' j = if j = k then is else idleOf L j) : ∀ j, ((if j = k then some is else f j).getD false) = idleOf L' j := fun j => by
  rw [h' j]
  by_cases e : j = k
  · rw [if_pos e, if_pos e]
    rfl
  · rw [if_neg e, if_neg e]
    exact h j
theorem idle_del {L L' : List Cl} {f : Int → Option Bool} {k : Int} (h : ∀ j, (f j).getD false = idleOf L j) (h' : ∀ j, idleOf L' j = if j = k then false else idleOf L j) : ∀ j, ((if j = k then none else f j).getD false) = idleOf L' j := fun j => by
  rw [h' j]
  by_cases e : j = k
  · rw [if_pos e, if_pos e]
    rfl
  · rw [if_neg e, if_neg e]
    exact h j
theorem idle_del2 {L L' : List Cl} {f : Int → Option Bool} {k o : Int} (h : ∀ j, (f j).getD false = idleOf L j) (h' : ∀ j, idleOf L' j = if j = k then false else if j = o then false else idleOf L j) : ∀ j, ((if j = k then none else if j = o then none else f j).getD false) = idleOf L' j := fun j => by
  rw [h' j]
  by_cases e : j = k
  · rw [if_pos e, if_pos e]
    rfl
  · rw [if_neg e, if_neg e]
    by_cases e2 : j = o
    · rw [if_pos e2, if_pos e2]
      rfl
    · rw [if_neg e2, if_neg e2]
      exact h j
def TableGoes.T30 : Bool × List (List Nat × List Nat) := (true, [([], []), ([], []), ([], []), ([1, 2], [1, 2]), ([3], [3]), ([0, 4], [0, 4]), ([5], [5]), ([6], [6]), ([6], [6]), ([6], [6]), ([8, 9, 6], [6, 8, 9]), ([10, 6], [6, 10]), ([7, 11, 6], [6, 7, 11]), ([6], [6]), ([6], [6]), ([13, 14, 6], [6, 13, 14]), ([12, 15, 6], [6, 12, 15]), ([6, 16], [6, 16]), ([17, 6], [17]), ([18], [18]), ([18], [18]), ([19, 20, 18], [18, 19, 20]), ([21, 18], [18, 21]), ([18], [18]), ([22, 23, 18], [18, 22, 23]), ([24, 18, 18], [18, 24]), ([25], [25]), ([25], [25]), ([25], [25]), ([27, 28, 25], [25, 27, 28]), ([29, 25], [25, 29]), ([26, 30, 25, 25], [25, 26, 30]), ([31, 25], [25, 31]), ([25, 32, 18], [18, 25, 32]), ([18, 33], [18, 33])])
def TableGoes.B30 : List Nat := [0, 0, 0, 6, 14, 31, 63, 127, 127, 127, 895, 1919, 4095, 127, 127, 24703, 65535, 131071, 262143, 524287, 524287, 2097151, 4194303, 524287, 16777215, 33554431, 67108863, 67108863, 67108863, 469762047, 1006632959, 2147483647, 4294967295, 8589934591, 17179869183]
theorem TableGoes.tab30 : rtab .any (opsOf Try.f7 30) = TableGoes.T30 := by kernel_rfl
theorem TableGoes.bits30 : waitsOk TableGoes.T30.2 TableGoes.B30 = true := by kernel_rfl
set_option maxRecDepth 100000 in
set_option maxHeartbeats 4000000 in
theorem goes_law (most : Int) (A : Option Addr) (c : Nat) (l : List Ac) (w : World) (hA : ActsAt w A l) (hm : wfI most) (hl : ∀ x ∈ l, wfA x) : Calls Try.prog 7 #[.int .i64 most, .slice A l.length c] w fun e w' => e = .returned (.bool true) ∧ Below w.heap.size w w' := by
  have HA := Lib.hid hA
  have HW := Lib.hid hl
  clear hA hl
  by_cases hb : most < 1 ∨ 1024 < most
  · as_aux_lemma =>
    have HO := Lib.hid hb
    clear hb
    go_enter Try.func7, Try.ntmps7
    go_wp2_with (first
      | (go_at_call 6; (with_reducible refine (known _).mono ?_); rintro e w1 ⟨rfl, hB⟩; have HB1 := Lib.hid hB; clear hB)
      | (go_at_call 10; (with_reducible refine (new_bad most _ HO.out).mono ?_); rintro e w2 ⟨rfl, rfl⟩))
    go_ret
    exact ⟨rfl, HB1.out⟩
  have hlo : 1 ≤ most := by omega
  have hhi : most ≤ 1024 := by omega
  clear hb
  by_cases h150 : 150 < l.length
  · as_aux_lemma =>
    have d0 : decide ((150 : Int) < (l.length : Int)) = true := decide_eq_true (by omega)
    go_enter Try.func7, Try.ntmps7
    go_wp2_with (first
      | (go_at_call 6; (with_reducible refine (known _).mono ?_); rintro e w1 ⟨rfl, hB⟩; have HB1 := Lib.hid hB; clear hB)
      | (go_at_call 10; (with_reducible refine (new_st most _ hlo hhi).mono ?_); rintro e w4 ⟨T, b, rfl, h0, hT, hb, hB⟩; have HB2 := Lib.hid (below_then HB1.out HB1.out.size hB); clear h0 hB))
    go_ret
    exact ⟨rfl, HB2.out⟩
  have d0 : decide ((150 : Int) < (l.length : Int)) = false := decide_eq_false (by omega)
  have hmm := @run_makeMap Try.prog
  go_enter Try.func7, Try.ntmps7
  go_wp2_with (first
    | (go_at_call 6; (with_reducible refine (known _).mono ?_); rintro e w1 ⟨rfl, hB⟩; have HB1 := Lib.hid hB; clear hB)
    | (go_at_call 10; (with_reducible refine (new_st most _ hlo hhi).mono ?_); rintro e w4 ⟨T, b, rfl, h0, hT, hb, hB⟩; have HB2 := Lib.hid (below_then HB1.out HB1.out.size hB); have HS0 := Lib.hid h0; have hT' := Nat.le_trans HB1.out.size hT; have hb' := Nat.le_trans HB1.out.size hb; clear h0 hB))
  have hlt0 := HS0.out.tab.lt
  have HS1 := Lib.hid (HS0.out.alloc (.map #[] 0))
  have HM1 := Lib.hid (bmap_new w4)
  have HB3 := Lib.hid (HB2.out.alloc HB2.out.size (.map #[] 0))
  have hwm := HB2.out.size
  have hTb := HS0.out.tab.ne
  generalize w4.heap.size = m at *
  go_loopg [9] l.length (fun kq v wr => ∃ (i : Nat) (L : List Cl) (f : Int → Option Bool), i + kq = l.length ∧ v = .int .i64 (i : Int) ∧ RowKit.Hid (St wr T b i most L) ∧ RowKit.Hid (BMap wr m i f) ∧ RowKit.Hid (∀ k, (f k).getD false = idleOf L k) ∧ RowKit.Hid (Below w.heap.size w wr))
  case atStart => exact ⟨0, [], fun _ => none, by omega, rfl, HS1, HM1, Lib.hid (fun k => (idle_nil k).symm), HB3⟩
  case round =>
    obtain ⟨i, L, f, hi, rfl, HS, HM, HI, HB⟩ := hrel
    clear HS0 HS1 HM1 HB3 HB2 HB1
    have hTm : some T ≠ some m := by simp only [ne_eq, Option.some.injEq]; omega
    have hbm : some b ≠ some m := by simp only [ne_eq, Option.some.injEq]; omega
    have hmb : some m ≠ some b := by simp only [ne_eq, Option.some.injEq]; omega
    by_cases hiq : i < l.length
    · obtain ⟨k, rfl⟩ : ∃ k, gk = k + 1 := ⟨gk - 1, by omega⟩
      have dd1 : decide ((i : Int) < (l.length : Int)) = true := decide_eq_true (by omega)
      obtain ⟨ad, e1, y0, y1, y2, y3⟩ := (HA.out i hiq)
      have z0 := (HB.out.cell (World.block_lt_of_cell? _ _ y0)).trans y0
      have z1 := (HB.out.cell (World.block_lt_of_cell? _ _ y1)).trans y1
      have z2 := (HB.out.cell (World.block_lt_of_cell? _ _ y2)).trans y2
      have z3 := (HB.out.cell (World.block_lt_of_cell? _ _ y3)).trans y3
      have hx := HW.out l[i] (List.getElem_mem hiq)
      have p1 : (0 ≤ (i : Int)) = True := eq_true (by omega)
      have q1 : ((i : Int) < (l.length : Int)) = True := eq_true (by omega)
      have hnat : i ≤ 1000 := by omega
      clear y0 y1 y2 y3
      generalize l[i] = x at *
      obtain ⟨xk, xc, xn, xi⟩ := x
      simp only at z0 z1 z2 z3
      cases e1
      go_upto_region 12 with fail
      have HX1 := Lib.hid (XAt.made wr (xk, xc, xn, xi))
      have HS1 := Lib.hid (HS.out.alloc (.cells #[.int .i64 xk, .int .i64 xc, .int .i64 xn, .bool xi] 38))
      have HM1 := Lib.hid (MapT.alloc HM.out (.cells #[.int .i64 xk, .int .i64 xc, .int .i64 xn, .bool xi] 38))
      have HB1 := Lib.hid (HB.out.alloc HB.out.size (.cells #[.int .i64 xk, .int .i64 xc, .int .i64 xn, .bool xi] 38))
      simp only at HX1
      generalize wr.heap.size = q at *
      generalize wr.alloc (.cells #[.int .i64 xk, .int .i64 xc, .int .i64 xn, .bool xi] 38) = wa at *
      obtain ⟨x0, x1, x2, x3⟩ := HX1.out.cells
      obtain ⟨wk, wc', wn⟩ := hx
      have hqb : some q ≠ some b := by simpa using HX1.out.ne HS1.out
      have hqm : some q ≠ some m := by simpa using HX1.out.neM HM1.out
      clear HS HM HB z0 z1 z2 z3
      simp only at wk wc' wn x0 x1 x2 x3
      by_cases hp : pickV xk 3 = 2
      · have d2 : (pickV xk 3 == 2) = true := by rw [hp]; rfl
        go_upto_region 14 with (first
          | (go_at_call 20; (with_reducible refine (all_c HS1.out).mono ?_); rintro e w1 ⟨A1, c1, rfl, hI, _, hB⟩; have HX2 := Lib.hid (HX1.out.below hB); have HS2 := Lib.hid (HS1.out.below hB); have HM2 := Lib.hid (MapT.below HM1.out hB); have HB2 := Lib.hid (below_then HB1.out HB1.out.size hB); clear hI hB x0 x1 x2 x3; obtain ⟨x0, x1, x2, x3⟩ := HX2.out.cells; simp only at x0 x1 x2 x3)
          | (go_at_call 9; (with_reducible refine (pick_c xk 3 _ wk (by omega) (by omega)).mono ?_); rintro e w2 ⟨rfl, rfl⟩))
        go_cut [63] (fun v W => v = .bool false ∧ RowKit.Hid (St W T b (i + 1) most (idleS L xc xi)) ∧ RowKit.Hid (BMap W m i f) ∧ RowKit.Hid (XAt W q (xk, xc, xn, xi)) ∧ RowKit.Hid (Below w.heap.size w W))
        case first => as_aux_lemma =>
          have keepX : RowKit.Hid (∀ W : World, XAt W q (xk, xc, xn, xi) → XAt W q (xk, xc, xn, xi) ∧ W.cell? ⟨q, 1, none⟩ = some (.int .i64 xc) ∧ W.cell? ⟨q, 3, none⟩ = some (.bool xi)) := fun W h => ⟨h, h.cells.2.1, h.cells.2.2.2⟩
          have Z := HX2.out
          have d3 : ((idleV L xc == 0) != (tabF (idleS L xc xi) xc).isSome) = false := by
            rcases idle_cases L xc xi with ⟨v0, _, v2, _⟩ | ⟨v0, v1, v2⟩
            · rw [v0, v2]; rfl
            · rw [v0, v2, v1]; rfl
          go_region_held3 (fun W => XAt W q (xk, xc, xn, xi) ∧ W.cell? ⟨q, 1, none⟩ = some (.int .i64 xc) ∧ W.cell? ⟨q, 3, none⟩ = some (.bool xi)) ((refine keepX.out _ ?_; repeat (first | assumption | (with_reducible first | apply XAt.alloc | apply XAt.drewN | apply XAt.drew)))) (first
            | (go_at_call 12; (with_reducible refine (idle_st (b := b) (n := i) (most := most) (L := L) ?side xc xi wc' (small _ (by omega))).mono ?_); (case side => exact HS2.out.drewN 1); rintro e w3 ⟨rfl, ht, hg⟩; have HS3 := Lib.hid ht; have HM3 := Lib.hid (MapT.kept (MapT.drewN HM2.out 1) hg hmb); have HX3 := (HX2.out.drewN 1).kept hg hqb; have HB3 := Lib.hid (below_row (below_drewN HB2.out 1) hg hb'); clear ht hg)
            | (go_at_call 19; (with_reducible refine (has_st (b := b) (n := i + 1) (most := most) (L := idleS L xc xi) ?side xc wc').mono ?_); (case side => first | exact HS3.out | exact HS3.out.drewN 1); rintro e w4 ⟨rfl, hB⟩; have hB' : Below w3.heap.size w3 w4 := (by first | exact hB | exact below_then (below_drewN (Below.refl _ _) 1) (Nat.le_refl _) hB); have HS4 := Lib.hid (HS3.out.below hB'); have HM4 := Lib.hid (MapT.below HM3.out hB'); have HX4 := HX3.below hB'; have HB4 := Lib.hid (below_then HB3.out HB3.out.size hB'); clear hB hB'))
          all_goals
            go_wp2_with fail
            go_meet
            exact ⟨congrArg Value.bool d3, HS4.out, HM4.out, by first | exact HX4 | exact HX4.drewN _, HB4.out⟩
        case rest =>
          obtain ⟨rfl, HS3, HM3, HX3, HB3⟩ := hcut
          clear HS1 HS2 HM1 HM2 HX1 HX2 HB1 HB2 x0 x1 x2 x3
          obtain ⟨x0, x1, x2, x3⟩ := HX3.out.cells
          simp only at x0 x1 x2 x3
          rcases idle_cases L xc xi with ⟨_, _, hh, hid⟩ | ⟨_, hn, hS⟩
          · as_aux_lemma =>
            have HID := Lib.hid hid
            clear hid
            go_wp2_with (first
              | (go_at_call 19; (with_reducible refine (has_st HS3.out xc wc').mono ?_); rintro e w5 ⟨rfl, hB⟩; rw [hh]; have HS5 := Lib.hid (HS3.out.below hB); have HM5 := Lib.hid (MapT.below HM3.out hB); have HX5 := Lib.hid (HX3.out.below hB); have HB5 := Lib.hid (below_then HB3.out HB3.out.size hB); clear hB x0 x1 x2 x3; obtain ⟨x0, x1, x2, x3⟩ := HX5.out.cells; simp only at x0 x1 x2 x3)
              | (at_mapUpdate; refine wpList_store _ rfl _ _ _ _ rfl HM5.out keyedI Try.underlying56 (small _ (by omega)) rfl xc rfl (by rw [keyZ wc']; rfl) xi rfl (fun j => if j = xc then some xi else f j) (if_pos rfl) (fun a ha => if_neg (fun e => ha (encI_inj.2 e))) (fun a ha => by rw [encI_inj.1 ha]) ?_; intro W6 hm6 hm7))
            go_roundg k
            case measure => omega
            case rel => exact ⟨i + 1, idleS L xc xi, _, by omega, congrArg (Value.int .i64) (by first | (unfold wrap64; omega) | omega), Lib.hid (HS5.out.kept hm7.grown hTm hbm), Lib.hid hm6, Lib.hid (idle_set HI.out HID.out), Lib.hid (below_row HB5.out hm7.grown hwm)⟩
          · as_aux_lemma =>
            rw [hS] at HS3
            go_wp2_with (first
              | (go_at_call 19; (with_reducible refine (has_st (L := L) HS3.out xc wc').mono ?_); rintro e w5 ⟨rfl, hB⟩; rw [hn]; have HS5 := Lib.hid (HS3.out.below hB); have HM5 := Lib.hid (MapT.below HM3.out hB); have HX5 := Lib.hid (HX3.out.below hB); have HB5 := Lib.hid (below_then HB3.out HB3.out.size hB); clear hB x0 x1 x2 x3; obtain ⟨x0, x1, x2, x3⟩ := HX5.out.cells; simp only at x0 x1 x2 x3))
            go_roundg k
            case measure => omega
            case rel => exact ⟨i + 1, L, f, by omega, congrArg (Value.int .i64) (by first | (unfold wrap64; omega) | omega), HS5, Lib.hid (MapT.mono HM5.out (Nat.le_succ _)), HI, HB5⟩
      · have d2 : (pickV xk 3 == 2) = false := beq_eq_false_iff_ne.2 hp
        have hlen : ((sortL L).length : Int) ≤ most := by rw [sortL_len]; exact HS1.out.len
        have WFL := Lib.hid HS1.out.wf
        go_upto_region 22 with (first
          | (go_at_call 20; (with_reducible refine (all_c HS1.out).mono ?_); rintro e w2 ⟨A1, c1, rfl, hI, _, hB⟩; have HI2 := Lib.hid hI; have HS2 := Lib.hid (HS1.out.below hB); have HM2 := Lib.hid (MapT.below HM1.out hB); have HX2 := Lib.hid (HX1.out.below hB); have HB2 := Lib.hid (below_then HB1.out HB1.out.size hB); clear hI; clear hB x0 x1 x2 x3; obtain ⟨x0, x1, x2, x3⟩ := HX2.out.cells; simp only at x0 x1 x2 x3)
          | (go_at_call 9; (with_reducible refine (pick_c xk 3 _ wk (by omega) (by omega)).mono ?_); rintro e w0 ⟨rfl, rfl⟩)
          | (go_at_call 23; (with_reducible refine (whens_c T b i most L A1 c1 (sortL L) _ HS2.out HI2.out (by omega) (sortL_wf HS2.out.wf)).mono ?_); rintro e w3 ⟨m3, rfl, hN, hm3, hB⟩; have hm3b : some m3 ≠ some b := (by have := HS2.out.tab.lt.2; simp only [ne_eq, Option.some.injEq]; omega); have HN3 := Lib.hid hN; have HI3 := Lib.hid (ints_below (W := w) HI2.out hB); have HS3 := Lib.hid (HS2.out.below hB); have HM3 := Lib.hid (MapT.below HM2.out hB); have HX3 := Lib.hid (HX2.out.below hB); have HB3 := Lib.hid (below_then HB2.out HB2.out.size hB); clear hN; clear hB x0 x1 x2 x3; obtain ⟨x0, x1, x2, x3⟩ := HX3.out.cells; simp only at x0 x1 x2 x3)
          | (go_at_call 19; (with_reducible refine (has_st HS3.out xc wc').mono ?_); rintro e w4 ⟨rfl, hB⟩; have HN4 := Lib.hid (MapT.below HN3.out hB); have HI4 := Lib.hid (ints_below (W := w) HI3.out hB); have HS4 := Lib.hid (HS3.out.below hB); have HM4 := Lib.hid (MapT.below HM3.out hB); have HX4 := Lib.hid (HX3.out.below hB); have HB4 := Lib.hid (below_then HB3.out HB3.out.size hB); clear hB x0 x1 x2 x3; obtain ⟨x0, x1, x2, x3⟩ := HX4.out.cells; simp only at x0 x1 x2 x3)
          | (go_at_call 11; (with_reducible refine (touch_st HS4.out xc xn wc' (small _ (by omega))).mono ?_); rintro e w5 ⟨rfl, ht, hg⟩; have HS5 := Lib.hid ht; have HM5 := Lib.hid (MapT.kept HM4.out hg hmb); have HX5 := Lib.hid (HX4.out.kept hg hqb); have HN5 := Lib.hid (MapT.kept HN4.out hg hm3b); have HI5 := Lib.hid (ints_kept HI4.out HS4.out.tab.2 hg); have HB5 := Lib.hid (below_row HB4.out hg hb'); clear ht hg x0 x1 x2 x3; obtain ⟨x0, x1, x2, x3⟩ := HX5.out.cells; simp only at x0 x1 x2 x3)
          | (go_at_call 20; (with_reducible refine (all_c HS5.out).mono ?_); rintro e w6 ⟨A6, c6, rfl, hJ, _, hB⟩; have HJ6 := Lib.hid hJ; have HN6 := Lib.hid (MapT.below HN5.out hB); have HI6 := Lib.hid (ints_below (W := w) HI5.out hB); have HS6 := Lib.hid (HS5.out.below hB); have HM6 := Lib.hid (MapT.below HM5.out hB); have HX6 := Lib.hid (HX5.out.below hB); have HB6 := Lib.hid (below_then HB5.out HB5.out.size hB); clear hJ; clear hB x0 x1 x2 x3; obtain ⟨x0, x1, x2, x3⟩ := HX6.out.cells; simp only at x0 x1 x2 x3))
        rcases touch_cases (most := most) (k := xc) (now := xn) HS2.out.wf with ⟨hv, hS⟩ | ⟨hv, hS, hr, hno⟩ | ⟨hv, hT⟩ | ⟨hv, hT⟩ | ⟨out, hv, hr, hG⟩
        · as_aux_lemma =>
          clear HS1 HS2 HS3 HS4 HS5 HM1 HM2 HM3 HM4 HM5 HX1 HX2 HX3 HX4 HX5 HB1 HB2 HB3 HB4 HB5 HI2 HI3 HI4 HI5 HN3 HN4 HN5
          rw [hS] at HS6 HJ6
          simp only [hv, hS]
          clear hv hS
          go_wp2_with (first
            | (go_at_call 21; (with_reducible refine (same_ints A1 A6 c1 c6 (sortL L) (sortL L) _ HI6.out HJ6.out (by unfold maxLen; omega) (by unfold maxLen; omega)).mono ?_); rintro e w7 ⟨rfl, n7, rfl⟩; rw [show decide (sortL L = sortL L) = true from decide_eq_true rfl]))
          go_roundg k
          case measure => omega
          case rel => exact ⟨i + 1, L, f, by omega, congrArg (Value.int .i64) (by first | (unfold wrap64; omega) | omega), Lib.hid (HS6.out.drewN n7), Lib.hid (MapT.mono (MapT.drewN HM6.out n7) (Nat.le_succ _)), HI, Lib.hid (below_drewN HB6.out n7)⟩
        · as_aux_lemma =>
          clear HS1 HS2 HS3 HS4 HS5 HM1 HM2 HM3 HM4 HM5 HX1 HX2 HX3 HX4 HX5 HB1 HB2 HB3 HB4 HB5 HI2 HI3 HI4 HI5 HN3 HN4 HN5
          rw [hS] at HS6 HJ6
          simp only [hv, hS]
          clear hv hS
          have dr : decide (((sortL L).length : Int) < most) = false := decide_eq_false (by rw [sortL_len]; exact hr)
          have hany : ((sortL L).any fun k => (f k).getD false) = false := List.any_eq_false.2 fun j _ => by rw [HI.out, hno]; exact Bool.false_ne_true
          have HNO := Lib.hid hno
          clear hno hr
          go_wp2_with (first
            | (go_at_call 21; (with_reducible refine (same_ints A1 A6 c1 c6 (sortL L) (sortL L) _ HI6.out HJ6.out (by unfold maxLen; omega) (by unfold maxLen; omega)).mono ?_); rintro e w7 ⟨rfl, n7, rfl⟩; rw [show decide (sortL L = sortL L) = true from decide_eq_true rfl]; have HMa : RowKit.Hid (BMap (w6.drewN n7) m i f) := Lib.hid (MapT.drewN HM6.out n7))
            | (go_at_call 24; (with_reducible refine (any_c A1 c1 m i (sortL L) f _ (ints_drewN HI6.out n7) (by unfold maxLen; omega) (sortL_wf HS6.out.wf) HMa.out).mono ?_); rintro e w8 ⟨rfl, rfl⟩; rw [hany]))
          go_roundg k
          case measure => omega
          case rel => exact ⟨i + 1, L, f, by omega, congrArg (Value.int .i64) (by first | (unfold wrap64; omega) | omega), Lib.hid (HS6.out.drewN n7), Lib.hid (MapT.mono (MapT.drewN HM6.out n7) (Nat.le_succ _)), HI, Lib.hid (below_drewN HB6.out n7)⟩
        · as_aux_lemma =>
          clear HS1 HS2 HS3 HS4 HS5 HM1 HM2 HM3 HM4 HM5 HX1 HX2 HX3 HX4 HX5 HB1 HB2 HB3 HB4 HB5 HI2 HI3 HI4 HI5 HN3 HN4 HN5
          generalize touchS most L xc xn = L' at *
          have HT := Lib.hid hT
          simp only [hv, HT.out.had]
          clear hv hT
          have d4 : decide (most < ((sortL L').length : Int)) = false := decide_eq_false (by rw [sortL_len]; have := HS6.out.len; omega)
          go_wp2_with (first
            | (go_at_call 19; (with_reducible refine (has_st HS6.out xc wc').mono ?_); rintro e w7 ⟨rfl, hB⟩; rw [HT.out.now]; have HS7 := Lib.hid (HS6.out.below hB); have HM7 := Lib.hid (MapT.below HM6.out hB); have HX7 := Lib.hid (HX6.out.below hB); have HB7 := Lib.hid (below_then HB6.out HB6.out.size hB); clear hB x0 x1 x2 x3; obtain ⟨x0, x1, x2, x3⟩ := HX7.out.cells; simp only at x0 x1 x2 x3))
          go_loopg [18] 0 (fun kq v wz => kq = 0 ∧ v = .int .i64 0 ∧ wz = w7)
          case atStart => exact ⟨rfl, rfl, rfl⟩
          case round =>
            obtain ⟨rfl, rfl, rfl⟩ := hrel
            have d5 : (((sortL L').length : Int) != ((sortL L).length : Int)) = false := by rw [sortL_len, sortL_len, HT.out.len]; simp
            go_wp2
            all_goals
              go_roundg k
              case measure => omega
              case rel => exact ⟨i + 1, L', f, by omega, congrArg (Value.int .i64) (by first | (unfold wrap64; omega) | omega), HS7, Lib.hid (MapT.mono HM7.out (Nat.le_succ _)), Lib.hid (fun j => by rw [HI.out, HT.out.idle]), HB7⟩
        · as_aux_lemma =>
          clear HS1 HS2 HS3 HS4 HS5 HM1 HM2 HM3 HM4 HM5 HX1 HX2 HX3 HX4 HX5 HB1 HB2 HB3 HB4 HB5 HI2 HI3 HI4 HI5 HN3 HN4 HN5
          generalize touchS most L xc xn = L' at *
          have HT := Lib.hid hT
          simp only [hv, HT.out.had]
          clear hv hT
          have d4 : decide (most < ((sortL L').length : Int)) = false := decide_eq_false (by rw [sortL_len]; have := HS6.out.len; omega)
          go_wp2_with (first
            | (go_at_call 19; (with_reducible refine (has_st HS6.out xc wc').mono ?_); rintro e w7 ⟨rfl, hB⟩; rw [HT.out.now]; have HS7 := Lib.hid (HS6.out.below hB); have HM7 := Lib.hid (MapT.below HM6.out hB); have HX7 := Lib.hid (HX6.out.below hB); have HB7 := Lib.hid (below_then HB6.out HB6.out.size hB); clear hB x0 x1 x2 x3; obtain ⟨x0, x1, x2, x3⟩ := HX7.out.cells; simp only at x0 x1 x2 x3))
          go_loopg [18] 0 (fun kq v wz => kq = 0 ∧ v = .int .i64 0 ∧ wz = w7)
          case atStart => exact ⟨rfl, rfl, rfl⟩
          case round =>
            obtain ⟨rfl, rfl, rfl⟩ := hrel
            have d5 : (((sortL L').length : Int) != ((sortL L).length : Int)) = true := by rw [sortL_len, sortL_len, HT.out.len]; simp; omega
            have d6 : (((sortL L').length : Int) != ((sortL L).length : Int) + 1) = false := by rw [sortL_len, sortL_len, HT.out.len]; simp
            have d7 : (((sortL L').length : Int) != wrap64 (((sortL L).length : Int) + 1)) = false := by rw [show wrap64 (((sortL L).length : Int) + 1) = ((sortL L).length : Int) + 1 by unfold wrap64; omega]; exact d6
            go_wp2_with (first
              | (at_delete; refine wpList_drop _ rfl _ _ _ rfl HM7.out keyedI Try.underlying56 rfl xc rfl (by rw [keyZ wc']; rfl) (fun j => if j = xc then none else f j) (fun a ha => if_pos (encI_inj.1 ha)) (fun a ha => if_neg (fun e => ha (encI_inj.2 e))) ?_; intro W8 hm8 hm9))
            all_goals
              go_roundg k
              case measure => omega
              case rel => exact ⟨i + 1, L', _, by omega, congrArg (Value.int .i64) (by first | (unfold wrap64; omega) | omega), Lib.hid (HS7.out.kept hm9.grown hTm hbm), Lib.hid (MapT.mono hm8 (Nat.le_succ _)), Lib.hid (idle_del HI.out HT.out.idle), Lib.hid (below_row HB7.out hm9.grown hwm)⟩
        · as_aux_lemma =>
          clear HS1 HS2 HS3 HS4 HS5 HM1 HM2 HM3 HM4 HM5 HX1 HX2 HX3 HX4 HX5 HB1 HB2 HB3 HB4 HB5 HI2 HI3 HI4 HI5 HN3 HN4 HN5
          generalize touchS most L xc xn = L' at *
          have HG := Lib.hid hG
          simp only [hv, HG.out.had]
          clear hv hG
          have d4 : decide (most < ((sortL L').length : Int)) = false := decide_eq_false (by rw [sortL_len]; have := HS6.out.len; omega)
          have d5 : decide (((sortL L).length : Int) < most) = false := decide_eq_false (by rw [sortL_len]; exact hr)
          have hwo := HG.out.wf
          clear hr
          go_wp2_with (first
            | (go_at_call 19; (with_reducible refine (has_st HS6.out xc wc').mono ?_); rintro e w7 ⟨rfl, hB⟩; rw [HG.out.now]; have HS7 := Lib.hid (HS6.out.below hB); have HM7 := Lib.hid (MapT.below HM6.out hB); have HX7 := Lib.hid (HX6.out.below hB); have HB7 := Lib.hid (below_then HB6.out HB6.out.size hB); have hlk := bmap_look HM7.out hwo; rw [HI.out, HG.out.was] at hlk; have HN7 := Lib.hid (MapT.below HN6.out hB); have HI7 := Lib.hid (ints_below (W := w) HI6.out hB); clear hB x0 x1 x2 x3; obtain ⟨x0, x1, x2, x3⟩ := HX7.out.cells; simp only at x0 x1 x2 x3)
            | (go_at_call 19; (with_reducible refine (has_st HS7.out out hwo).mono ?_); rintro e w8 ⟨rfl, hB⟩; rw [HG.out.off]; have HS8 := Lib.hid (HS7.out.below hB); have HM8 := Lib.hid (MapT.below HM7.out hB); have HX8 := Lib.hid (HX7.out.below hB); have HB8 := Lib.hid (below_then HB7.out HB7.out.size hB); have HN8 := Lib.hid (MapT.below HN7.out hB); have HI8 := Lib.hid (ints_below (W := w) HI7.out hB); clear hB x0 x1 x2 x3; obtain ⟨x0, x1, x2, x3⟩ := HX8.out.cells; simp only at x0 x1 x2 x3))
          clear x0 x1 x2 x3 HS6 HM6 HX6 HB6 HI6 HN6 HS7 HM7 HX7 HB7 HI7 HN7
          go_loopg [18] (sortL L).length (fun kq v wr => ∃ j : Nat, j + kq = (sortL L).length ∧ v = .int .i64 (j : Int) ∧ RowKit.Hid (St wr T b (i + 1) most L') ∧ RowKit.Hid (BMap wr m i f) ∧ RowKit.Hid (NMap wr m3 (sortL L).length (whensF L (sortL L) (sortL L).length)) ∧ RowKit.Hid (XAt wr q (xk, xc, xn, xi)) ∧ RowKit.Hid (IntsAt wr A1 (sortL L)) ∧ RowKit.Hid (Below w.heap.size w wr))
          case atStart => exact ⟨0, by omega, rfl, HS8, HM8, HN8, HX8, HI8, HB8⟩
          case round =>
            clear HS8 HM8 HN8 HX8 HI8 HB8 HJ6
            obtain ⟨j, hj, rfl, HSc, HMc, HNc, HXc, HIc, HBc⟩ := hrel
            obtain ⟨x0, x1, x2, x3⟩ := HXc.out.cells
            simp only at x0 x1 x2 x3
            by_cases hjq : j < (sortL L).length
            · obtain ⟨k2, rfl⟩ : ∃ k2, gk = k2 + 1 := ⟨gk - 1, by omega⟩
              have d6 : decide ((j : Int) < ((sortL L).length : Int)) = true := decide_eq_true (by omega)
              obtain ⟨adz, ez, s0⟩ := HIc.out j hjq
              have p2 : (0 ≤ (j : Int)) = True := eq_true (by omega)
              have q2 : ((j : Int) < ((sortL L).length : Int)) = True := eq_true (by omega)
              have hzm := List.getElem_mem hjq
              generalize (sortL L)[j] = z at *
              cases ez
              have hzw := Lib.hid (sortL_wf (WFL.out) z hzm)
              have hoz := whens_at HG.out.mem
              have hzz := whens_at hzm
              have hzt := mem_isSome hzm
              by_cases hzo : z = out
              · as_aux_lemma =>
                have hiz : idleOf L z = true := by rw [hzo]; exact HG.out.was
                have dl : decide (atOf L z < atOf L out) = false := decide_eq_false (by rw [hzo]; omega)
                have dz : (z != out) = false := by rw [hzo]; simp
                clear hzo
                have keepS : RowKit.Hid (∀ W : World, Below wr.heap.size wr W → Below wr.heap.size wr W ∧ W.cell? (adz.add j) = some (.int .i64 z) ∧ (Instr.lookup 56 (.map (some m)) (.int .i64 z) false).run Try.prog W = .ok (.bool true) W ∧ (Instr.lookup 57 (.map (some m3)) (.int .i64 z) false).run Try.prog W = .ok (.int .i64 (atOf L z)) W ∧ (Instr.lookup 57 (.map (some m3)) (.int .i64 out) false).run Try.prog W = .ok (.int .i64 (atOf L out)) W) := fun W hb => ⟨hb, (hb.cell (World.block_lt_of_cell? _ _ s0)).trans s0, by rw [bmap_look (MapT.below HMc.out hb) hzw.out, HI.out, hiz], by rw [nmap_look (MapT.below HNc.out hb) hzw.out, hzz], by rw [nmap_look (MapT.below HNc.out hb) hwo, hoz]⟩
                have Z := Below.refl wr.heap.size wr
                go_upto_region 30 with fail
                clear s0 x0 x1 x2 x3
                refine start_ (n := 35) (S := (fun W => Below wr.heap.size wr W ∧ W.cell? (adz.add j) = some (.int .i64 z) ∧ (Instr.lookup 56 (.map (some m)) (.int .i64 z) false).run Try.prog W = .ok (.bool true) W ∧ (Instr.lookup 57 (.map (some m3)) (.int .i64 z) false).run Try.prog W = .ok (.int .i64 (atOf L z)) W ∧ (Instr.lookup 57 (.map (some m3)) (.int .i64 out) false).run Try.prog W = .ok (.int .i64 (atOf L out)) W)) (ds := []) #[false, false, false, false, false, false, false, false, false, false, false, false, false, false, false, false, false, false, false, false, false, false, false, false, false, false, false, false, false, false, false, false, false, false, false] (by kernel_rfl) rfl rfl (keepS.out _ (below_drew1 Z)) (fun hHeld => ?_)
                refine with_tabW TableGoes.tab30 TableGoes.bits30 (fun HT_ HW_ => ?_)
                refine pure_ (i := 0) (N := some 165) (v := ?_) (a' := ?_) #[true, false, false, false, false, false, false, false, false, false, false, false, false, false, false, false, false, false, false, false, false, false, false, false, false, false, false, false, false, false, false, false, false, false, false] rfl rfl (any_of HT_.out (by kernel_rfl)) (fun _ _ _ h => h) (Or.inl ⟨by rfl, ?_⟩) ?_ ?_
                rotate_left
                · intro w'
                  go_simp
                  with_reducible rfl
                rotate_left
                · simp only [Act.put, List.setIfInBounds_toArray, List.set_cons_zero, List.set_cons_succ, i64_w, i32_w]
                  rfl
                refine pure_ (i := 1) (N := some 166) (v := ?_) (a' := ?_) #[true, true, false, false, false, false, false, false, false, false, false, false, false, false, false, false, false, false, false, false, false, false, false, false, false, false, false, false, false, false, false, false, false, false, false] rfl rfl (any_of HT_.out (by kernel_rfl)) (fun _ _ _ h => h) (Or.inl ⟨by rfl, ?_⟩) ?_ ?_
                rotate_left
                · intro w'
                  go_simp
                  with_reducible rfl
                rotate_left
                · simp only [Act.put, List.setIfInBounds_toArray, List.set_cons_zero, List.set_cons_succ, i64_w, i32_w]
                  rfl
                refine pure_ (i := 2) (N := some 167) (v := ?_) (a' := ?_) #[true, true, true, false, false, false, false, false, false, false, false, false, false, false, false, false, false, false, false, false, false, false, false, false, false, false, false, false, false, false, false, false, false, false, false] rfl rfl (any_of HT_.out (by kernel_rfl)) (fun _ _ _ h => h) (Or.inl ⟨by rfl, ?_⟩) ?_ ?_
                rotate_left
                · intro w'
                  go_simp
                  with_reducible rfl
                rotate_left
                · simp only [Act.put, List.setIfInBounds_toArray, List.set_cons_zero, List.set_cons_succ, i64_w, i32_w]
                  rfl
                refine pure_ (i := 3) (N := some 168) (v := ?_) (a' := ?_) #[true, true, true, true, false, false, false, false, false, false, false, false, false, false, false, false, false, false, false, false, false, false, false, false, false, false, false, false, false, false, false, false, false, false, false] rfl rfl (any_of HT_.out (by kernel_rfl)) (fun _ _ _ h => h) (Or.inl ⟨by rfl, ?_⟩) ?_ ?_
                rotate_left
                · intro w'
                  go_simp
                  with_reducible rfl
                rotate_left
                · simp only [Act.put, List.setIfInBounds_toArray, List.set_cons_zero, List.set_cons_succ, i64_w, i32_w]
                  rfl
                refine take_ (i := 4) (N := some 169) (v := ?_) (a' := ?_) #[true, true, true, true, true, false, false, false, false, false, false, false, false, false, false, false, false, false, false, false, false, false, false, false, false, false, false, false, false, false, false, false, false, false, false] rfl rfl (take_ofW HT_.out HW_.out (by kernel_rfl)) (fun _ _ _ h => h) (Or.inl ⟨by rfl, ?_⟩) hHeld ?_ ?_
                rotate_left
                · rintro w' ⟨s0, s1, s2, s3, s4⟩
                  go_simp
                  with_reducible rfl
                rotate_left
                · simp only [Act.put, List.setIfInBounds_toArray, List.set_cons_zero, List.set_cons_succ, i64_w, i32_w]
                  rfl
                refine take_ (i := 5) (N := some 170) (v := ?_) (a' := ?_) #[true, true, true, true, true, true, false, false, false, false, false, false, false, false, false, false, false, false, false, false, false, false, false, false, false, false, false, false, false, false, false, false, false, false, false] rfl rfl (take_ofW HT_.out HW_.out (by kernel_rfl)) (fun _ _ _ h => h) (Or.inl ⟨by rfl, ?_⟩) hHeld ?_ ?_
                rotate_left
                · rintro w' ⟨s0, s1, s2, s3, s4⟩
                  go_simp
                  with_reducible rfl
                rotate_left
                · simp only [Act.put, List.setIfInBounds_toArray, List.set_cons_zero, List.set_cons_succ, i64_w, i32_w]
                  rfl
                refine pure_ (i := 6) (N := some 171) (v := ?_) (a' := ?_) #[true, true, true, true, true, true, true, false, false, false, false, false, false, false, false, false, false, false, false, false, false, false, false, false, false, false, false, false, false, false, false, false, false, false, false] rfl rfl (any_of HT_.out (by kernel_rfl)) (fun _ _ _ h => h) (Or.inl ⟨by rfl, ?_⟩) ?_ ?_
                rotate_left
                · intro w'
                  go_simp
                  with_reducible rfl
                rotate_left
                · simp only [Act.put, List.setIfInBounds_toArray, List.set_cons_zero, List.set_cons_succ, i64_w, i32_w]
                  rfl
                refine pure_ (i := 7) (N := some 172) (v := ?_) (a' := ?_) #[true, true, true, true, true, true, true, true, false, false, false, false, false, false, false, false, false, false, false, false, false, false, false, false, false, false, false, false, false, false, false, false, false, false, false] rfl rfl (any_of HT_.out (by kernel_rfl)) (fun _ _ _ h => h) (Or.inl ⟨by rfl, ?_⟩) ?_ ?_
                rotate_left
                · intro w'
                  go_simp
                  with_reducible rfl
                rotate_left
                · simp only [Act.put, List.setIfInBounds_toArray, List.set_cons_zero, List.set_cons_succ, i64_w, i32_w]
                  rfl
                refine pure_ (i := 8) (N := some 173) (v := ?_) (a' := ?_) #[true, true, true, true, true, true, true, true, true, false, false, false, false, false, false, false, false, false, false, false, false, false, false, false, false, false, false, false, false, false, false, false, false, false, false] rfl rfl (any_of HT_.out (by kernel_rfl)) (fun _ _ _ h => h) (Or.inl ⟨by rfl, ?_⟩) ?_ ?_
                rotate_left
                · intro w'
                  go_simp
                  with_reducible rfl
                rotate_left
                · simp only [Act.put, List.setIfInBounds_toArray, List.set_cons_zero, List.set_cons_succ, i64_w, i32_w]
                  rfl
                refine pure_ (i := 9) (N := some 174) (v := ?_) (a' := ?_) #[true, true, true, true, true, true, true, true, true, true, false, false, false, false, false, false, false, false, false, false, false, false, false, false, false, false, false, false, false, false, false, false, false, false, false] rfl rfl (any_of HT_.out (by kernel_rfl)) (fun _ _ _ h => h) (Or.inl ⟨by rfl, ?_⟩) ?_ ?_
                rotate_left
                · intro w'
                  go_simp
                  with_reducible rfl
                rotate_left
                · simp only [Act.put, List.setIfInBounds_toArray, List.set_cons_zero, List.set_cons_succ, i64_w, i32_w]
                  rfl
                refine pure_ (i := 10) (N := some 175) (v := ?_) (a' := ?_) #[true, true, true, true, true, true, true, true, true, true, true, false, false, false, false, false, false, false, false, false, false, false, false, false, false, false, false, false, false, false, false, false, false, false, false] rfl rfl (any_of HT_.out (by kernel_rfl)) (fun _ _ _ h => h) (Or.inl ⟨by rfl, ?_⟩) ?_ ?_
                rotate_left
                · intro w'
                  go_simp
                  with_reducible rfl
                rotate_left
                · simp only [Act.put, List.setIfInBounds_toArray, List.set_cons_zero, List.set_cons_succ, i64_w, i32_w]
                  rfl
                refine pure_ (i := 13) (N := some 178) (v := ?_) (a' := ?_) #[true, true, true, true, true, true, true, true, true, true, true, false, false, true, false, false, false, false, false, false, false, false, false, false, false, false, false, false, false, false, false, false, false, false, false] rfl rfl (any_of HT_.out (by kernel_rfl)) (fun _ _ _ h => h) (Or.inl ⟨by rfl, ?_⟩) ?_ ?_
                rotate_left
                · intro w'
                  go_simp
                  with_reducible rfl
                rotate_left
                · simp only [Act.put, List.setIfInBounds_toArray, List.set_cons_zero, List.set_cons_succ, i64_w, i32_w]
                  rfl
                refine pure_ (i := 14) (N := some 179) (v := ?_) (a' := ?_) #[true, true, true, true, true, true, true, true, true, true, true, false, false, true, true, false, false, false, false, false, false, false, false, false, false, false, false, false, false, false, false, false, false, false, false] rfl rfl (any_of HT_.out (by kernel_rfl)) (fun _ _ _ h => h) (Or.inl ⟨by rfl, ?_⟩) ?_ ?_
                rotate_left
                · intro w'
                  go_simp
                  with_reducible rfl
                rotate_left
                · simp only [Act.put, List.setIfInBounds_toArray, List.set_cons_zero, List.set_cons_succ, i64_w, i32_w]
                  rfl
                refine take_ (i := 11) (N := some 176) (v := ?_) (a' := ?_) #[true, true, true, true, true, true, true, true, true, true, true, true, false, true, true, false, false, false, false, false, false, false, false, false, false, false, false, false, false, false, false, false, false, false, false] rfl rfl (take_ofW HT_.out HW_.out (by kernel_rfl)) (fun _ _ _ h => h) (Or.inl ⟨by rfl, ?_⟩) hHeld ?_ ?_
                rotate_left
                · rintro w' ⟨s0, s1, s2, s3, s4⟩
                  go_simp
                  with_reducible rfl
                rotate_left
                · simp only [Act.put, List.setIfInBounds_toArray, List.set_cons_zero, List.set_cons_succ, i64_w, i32_w]
                  rfl
                refine take_ (i := 12) (N := some 177) (v := ?_) (a' := ?_) #[true, true, true, true, true, true, true, true, true, true, true, true, true, true, true, false, false, false, false, false, false, false, false, false, false, false, false, false, false, false, false, false, false, false, false] rfl rfl (take_ofW HT_.out HW_.out (by kernel_rfl)) (fun _ _ _ h => h) (Or.inl ⟨by rfl, ?_⟩) hHeld ?_ ?_
                rotate_left
                · rintro w' ⟨s0, s1, s2, s3, s4⟩
                  go_simp
                  with_reducible rfl
                rotate_left
                · simp only [Act.put, List.setIfInBounds_toArray, List.set_cons_zero, List.set_cons_succ, i64_w, i32_w]
                  rfl
                refine take_ (i := 15) (N := some 180) (v := ?_) (a' := ?_) #[true, true, true, true, true, true, true, true, true, true, true, true, true, true, true, true, false, false, false, false, false, false, false, false, false, false, false, false, false, false, false, false, false, false, false] rfl rfl (take_ofW HT_.out HW_.out (by kernel_rfl)) (fun _ _ _ h => h) (Or.inl ⟨by rfl, ?_⟩) hHeld ?_ ?_
                rotate_left
                · rintro w' ⟨s0, s1, s2, s3, s4⟩
                  go_simp
                  with_reducible rfl
                rotate_left
                · simp only [Act.put, List.setIfInBounds_toArray, List.set_cons_zero, List.set_cons_succ, i64_w, i32_w]
                  rfl
                refine pure_ (i := 16) (N := some 181) (v := ?_) (a' := ?_) #[true, true, true, true, true, true, true, true, true, true, true, true, true, true, true, true, true, false, false, false, false, false, false, false, false, false, false, false, false, false, false, false, false, false, false] rfl rfl (any_of HT_.out (by kernel_rfl)) (fun _ _ _ h => h) (Or.inl ⟨by rfl, ?_⟩) ?_ ?_
                rotate_left
                · intro w'
                  go_simp
                  with_reducible rfl
                rotate_left
                · simp only [Act.put, List.setIfInBounds_toArray, List.set_cons_zero, List.set_cons_succ, i64_w, i32_w]
                  rfl
                refine pure_ (i := 17) (N := some 182) (v := ?_) (a' := ?_) #[true, true, true, true, true, true, true, true, true, true, true, true, true, true, true, true, true, true, false, false, false, false, false, false, false, false, false, false, false, false, false, false, false, false, false] rfl rfl (any_of HT_.out (by kernel_rfl)) (fun _ _ _ h => h) (Or.inl ⟨by rfl, ?_⟩) ?_ ?_
                rotate_left
                · intro w'
                  go_simp
                  with_reducible rfl
                rotate_left
                · simp only [Act.put, List.setIfInBounds_toArray, List.set_cons_zero, List.set_cons_succ, i64_w, i32_w]
                  rfl
                refine pure_ (i := 18) (N := some 183) (v := ?_) (a' := ?_) #[true, true, true, true, true, true, true, true, true, true, true, true, true, true, true, true, true, true, true, false, false, false, false, false, false, false, false, false, false, false, false, false, false, false, false] rfl rfl (any_of HT_.out (by kernel_rfl)) (fun _ _ _ h => h) (Or.inl ⟨by rfl, ?_⟩) ?_ ?_
                rotate_left
                · intro w'
                  go_simp
                  with_reducible rfl
                rotate_left
                · simp only [Act.put, List.setIfInBounds_toArray, List.set_cons_zero, List.set_cons_succ, i64_w, i32_w]
                  rfl
                refine pure_ (i := 19) (N := some 184) (v := ?_) (a' := ?_) #[true, true, true, true, true, true, true, true, true, true, true, true, true, true, true, true, true, true, true, true, false, false, false, false, false, false, false, false, false, false, false, false, false, false, false] rfl rfl (any_of HT_.out (by kernel_rfl)) (fun _ _ _ h => h) (Or.inl ⟨by rfl, ?_⟩) ?_ ?_
                rotate_left
                · intro w'
                  go_simp
                  with_reducible rfl
                rotate_left
                · simp only [Act.put, List.setIfInBounds_toArray, List.set_cons_zero, List.set_cons_succ, i64_w, i32_w]
                  rfl
                refine pure_ (i := 20) (N := some 185) (v := ?_) (a' := ?_) #[true, true, true, true, true, true, true, true, true, true, true, true, true, true, true, true, true, true, true, true, true, false, false, false, false, false, false, false, false, false, false, false, false, false, false] rfl rfl (any_of HT_.out (by kernel_rfl)) (fun _ _ _ h => h) (Or.inl ⟨by rfl, ?_⟩) ?_ ?_
                rotate_left
                · intro w'
                  go_simp
                  with_reducible rfl
                rotate_left
                · simp only [Act.put, List.setIfInBounds_toArray, List.set_cons_zero, List.set_cons_succ, i64_w, i32_w]
                  rfl
                refine pure_ (i := 21) (N := some 186) (v := ?_) (a' := ?_) #[true, true, true, true, true, true, true, true, true, true, true, true, true, true, true, true, true, true, true, true, true, true, false, false, false, false, false, false, false, false, false, false, false, false, false] rfl rfl (any_of HT_.out (by kernel_rfl)) (fun _ _ _ h => h) (Or.inl ⟨by rfl, ?_⟩) ?_ ?_
                rotate_left
                · intro w'
                  go_simp
                  with_reducible rfl
                rotate_left
                · simp only [Act.put, List.setIfInBounds_toArray, List.set_cons_zero, List.set_cons_succ, i64_w, i32_w]
                  rfl
                refine pure_ (i := 23) (N := some 188) (v := ?_) (a' := ?_) #[true, true, true, true, true, true, true, true, true, true, true, true, true, true, true, true, true, true, true, true, true, true, false, true, false, false, false, false, false, false, false, false, false, false, false] rfl rfl (any_of HT_.out (by kernel_rfl)) (fun _ _ _ h => h) (Or.inl ⟨by rfl, ?_⟩) ?_ ?_
                rotate_left
                · intro w'
                  go_simp
                  with_reducible rfl
                rotate_left
                · simp only [Act.put, List.setIfInBounds_toArray, List.set_cons_zero, List.set_cons_succ, i64_w, i32_w]
                  rfl
                refine take_ (i := 22) (N := some 187) (v := ?_) (a' := ?_) #[true, true, true, true, true, true, true, true, true, true, true, true, true, true, true, true, true, true, true, true, true, true, true, true, false, false, false, false, false, false, false, false, false, false, false] rfl rfl (take_ofW HT_.out HW_.out (by kernel_rfl)) (fun _ _ _ h => h) (Or.inl ⟨by rfl, ?_⟩) hHeld ?_ ?_
                rotate_left
                · rintro w' ⟨s0, s1, s2, s3, s4⟩
                  go_simp
                  with_reducible rfl
                rotate_left
                · simp only [Act.put, List.setIfInBounds_toArray, List.set_cons_zero, List.set_cons_succ, i64_w, i32_w]
                  rfl
                refine pure_ (i := 24) (N := some 189) (v := ?_) (a' := ?_) #[true, true, true, true, true, true, true, true, true, true, true, true, true, true, true, true, true, true, true, true, true, true, true, true, true, false, false, false, false, false, false, false, false, false, false] rfl rfl (any_of HT_.out (by kernel_rfl)) (fun _ _ _ h => h) (Or.inl ⟨by rfl, ?_⟩) ?_ ?_
                rotate_left
                · intro w'
                  go_simp
                  with_reducible rfl
                rotate_left
                · simp only [Act.put, List.setIfInBounds_toArray, List.set_cons_zero, List.set_cons_succ, i64_w, i32_w]
                  rfl
                refine pure_ (i := 25) (N := some 190) (v := ?_) (a' := ?_) #[true, true, true, true, true, true, true, true, true, true, true, true, true, true, true, true, true, true, true, true, true, true, true, true, true, true, false, false, false, false, false, false, false, false, false] rfl rfl (any_of HT_.out (by kernel_rfl)) (fun _ _ _ h => h) (Or.inl ⟨by rfl, ?_⟩) ?_ ?_
                rotate_left
                · intro w'
                  go_simp
                  with_reducible rfl
                rotate_left
                · simp only [Act.put, List.setIfInBounds_toArray, List.set_cons_zero, List.set_cons_succ, i64_w, i32_w]
                  rfl
                refine pure_ (i := 26) (N := some 191) (v := undef) (a' := ?_) #[true, true, true, true, true, true, true, true, true, true, true, true, true, true, true, true, true, true, true, true, true, true, true, true, true, true, true, false, false, false, false, false, false, false, false] rfl rfl (any_of HT_.out (by kernel_rfl)) (fun _ _ _ h => h) (Or.inr ⟨by rfl, rfl⟩) ?_ ?_
                rotate_left
                · simp only [Act.put, List.setIfInBounds_toArray, List.set_cons_zero, List.set_cons_succ, i64_w, i32_w]
                  rfl
                refine pure_ (i := 27) (N := some 192) (v := undef) (a' := ?_) #[true, true, true, true, true, true, true, true, true, true, true, true, true, true, true, true, true, true, true, true, true, true, true, true, true, true, true, true, false, false, false, false, false, false, false] rfl rfl (any_of HT_.out (by kernel_rfl)) (fun _ _ _ h => h) (Or.inr ⟨by rfl, rfl⟩) ?_ ?_
                rotate_left
                · simp only [Act.put, List.setIfInBounds_toArray, List.set_cons_zero, List.set_cons_succ, i64_w, i32_w]
                  rfl
                refine pure_ (i := 28) (N := some 193) (v := undef) (a' := ?_) #[true, true, true, true, true, true, true, true, true, true, true, true, true, true, true, true, true, true, true, true, true, true, true, true, true, true, true, true, true, false, false, false, false, false, false] rfl rfl (any_of HT_.out (by kernel_rfl)) (fun _ _ _ h => h) (Or.inr ⟨by rfl, rfl⟩) ?_ ?_
                rotate_left
                · simp only [Act.put, List.setIfInBounds_toArray, List.set_cons_zero, List.set_cons_succ, i64_w, i32_w]
                  rfl
                refine pure_ (i := 29) (N := some 194) (v := undef) (a' := ?_) #[true, true, true, true, true, true, true, true, true, true, true, true, true, true, true, true, true, true, true, true, true, true, true, true, true, true, true, true, true, true, false, false, false, false, false] rfl rfl (any_of HT_.out (by kernel_rfl)) (fun _ _ _ h => h) (Or.inr ⟨by rfl, rfl⟩) ?_ ?_
                rotate_left
                · simp only [Act.put, List.setIfInBounds_toArray, List.set_cons_zero, List.set_cons_succ, i64_w, i32_w]
                  rfl
                refine pure_ (i := 30) (N := some 195) (v := undef) (a' := ?_) #[true, true, true, true, true, true, true, true, true, true, true, true, true, true, true, true, true, true, true, true, true, true, true, true, true, true, true, true, true, true, true, false, false, false, false] rfl rfl (any_of HT_.out (by kernel_rfl)) (fun _ _ _ h => h) (Or.inr ⟨by rfl, rfl⟩) ?_ ?_
                rotate_left
                · simp only [Act.put, List.setIfInBounds_toArray, List.set_cons_zero, List.set_cons_succ, i64_w, i32_w]
                  rfl
                refine pure_ (i := 31) (N := some 196) (v := undef) (a' := ?_) #[true, true, true, true, true, true, true, true, true, true, true, true, true, true, true, true, true, true, true, true, true, true, true, true, true, true, true, true, true, true, true, true, false, false, false] rfl rfl (any_of HT_.out (by kernel_rfl)) (fun _ _ _ h => h) (Or.inr ⟨by rfl, rfl⟩) ?_ ?_
                rotate_left
                · simp only [Act.put, List.setIfInBounds_toArray, List.set_cons_zero, List.set_cons_succ, i64_w, i32_w]
                  rfl
                refine pure_ (i := 32) (N := some 197) (v := undef) (a' := ?_) #[true, true, true, true, true, true, true, true, true, true, true, true, true, true, true, true, true, true, true, true, true, true, true, true, true, true, true, true, true, true, true, true, true, false, false] rfl rfl (any_of HT_.out (by kernel_rfl)) (fun _ _ _ h => h) (Or.inr ⟨by rfl, rfl⟩) ?_ ?_
                rotate_left
                · simp only [Act.put, List.setIfInBounds_toArray, List.set_cons_zero, List.set_cons_succ, i64_w, i32_w]
                  rfl
                refine pure_ (i := 33) (N := some 198) (v := ?_) (a' := ?_) #[true, true, true, true, true, true, true, true, true, true, true, true, true, true, true, true, true, true, true, true, true, true, true, true, true, true, true, true, true, true, true, true, true, true, false] rfl rfl (any_of HT_.out (by kernel_rfl)) (fun _ _ _ h => h) (Or.inl ⟨by rfl, ?_⟩) ?_ ?_
                rotate_left
                · intro w'
                  go_simp
                  with_reducible rfl
                rotate_left
                · simp only [Act.put, List.setIfInBounds_toArray, List.set_cons_zero, List.set_cons_succ, i64_w, i32_w]
                  rfl
                refine pure_ (i := 34) (N := some 199) (v := ?_) (a' := ?_) #[true, true, true, true, true, true, true, true, true, true, true, true, true, true, true, true, true, true, true, true, true, true, true, true, true, true, true, true, true, true, true, true, true, true, true] rfl rfl (any_of HT_.out (by kernel_rfl)) (fun _ _ _ h => h) (Or.inl ⟨by rfl, ?_⟩) ?_ ?_
                rotate_left
                · intro w'
                  go_simp
                  with_reducible rfl
                rotate_left
                · simp only [Act.put, List.setIfInBounds_toArray, List.set_cons_zero, List.set_cons_succ, i64_w, i32_w]
                  rfl
                refine done_ (done_of HT_.out (by kernel_rfl)) ?_
                go_wp2
                go_roundg k2
                case measure => omega
                case rel => exact ⟨j + 1, by omega, congrArg (Value.int .i64) (by first | (unfold wrap64; omega) | omega), Lib.hid (HSc.out.below hHeld.1), Lib.hid (MapT.below HMc.out hHeld.1), Lib.hid (MapT.below HNc.out hHeld.1), Lib.hid (HXc.out.below hHeld.1), Lib.hid (ints_below (W := w) HIc.out hHeld.1), Lib.hid (below_then HBc.out HBc.out.size hHeld.1)⟩
              have hze := HG.out.else_ z hzm hzo
              have dz : (z != out) = true := bne_iff_ne.2 hzo
              clear hzo
              cases hiz : idleOf L z
              · as_aux_lemma =>
                have keepS : RowKit.Hid (∀ W : World, Below wr.heap.size wr W → Below wr.heap.size wr W ∧ W.cell? (adz.add j) = some (.int .i64 z) ∧ (Instr.lookup 56 (.map (some m)) (.int .i64 z) false).run Try.prog W = .ok (.bool false) W ∧ (Instr.lookup 57 (.map (some m3)) (.int .i64 z) false).run Try.prog W = .ok (.int .i64 (atOf L z)) W ∧ (Instr.lookup 57 (.map (some m3)) (.int .i64 out) false).run Try.prog W = .ok (.int .i64 (atOf L out)) W) := fun W hb => ⟨hb, (hb.cell (World.block_lt_of_cell? _ _ s0)).trans s0, by rw [bmap_look (MapT.below HMc.out hb) hzw.out, HI.out, hiz], by rw [nmap_look (MapT.below HNc.out hb) hzw.out, hzz], by rw [nmap_look (MapT.below HNc.out hb) hwo, hoz]⟩
                have Z := Below.refl wr.heap.size wr
                go_upto_region 30 with fail
                clear s0 x0 x1 x2 x3
                refine start_ (n := 35) (S := (fun W => Below wr.heap.size wr W ∧ W.cell? (adz.add j) = some (.int .i64 z) ∧ (Instr.lookup 56 (.map (some m)) (.int .i64 z) false).run Try.prog W = .ok (.bool false) W ∧ (Instr.lookup 57 (.map (some m3)) (.int .i64 z) false).run Try.prog W = .ok (.int .i64 (atOf L z)) W ∧ (Instr.lookup 57 (.map (some m3)) (.int .i64 out) false).run Try.prog W = .ok (.int .i64 (atOf L out)) W)) (ds := []) #[false, false, false, false, false, false, false, false, false, false, false, false, false, false, false, false, false, false, false, false, false, false, false, false, false, false, false, false, false, false, false, false, false, false, false] (by kernel_rfl) rfl rfl (keepS.out _ (below_drew1 Z)) (fun hHeld => ?_)
                refine with_tabW TableGoes.tab30 TableGoes.bits30 (fun HT_ HW_ => ?_)
                refine pure_ (i := 0) (N := some 165) (v := ?_) (a' := ?_) #[true, false, false, false, false, false, false, false, false, false, false, false, false, false, false, false, false, false, false, false, false, false, false, false, false, false, false, false, false, false, false, false, false, false, false] rfl rfl (any_of HT_.out (by kernel_rfl)) (fun _ _ _ h => h) (Or.inl ⟨by rfl, ?_⟩) ?_ ?_
                rotate_left
                · intro w'
                  go_simp
                  with_reducible rfl
                rotate_left
                · simp only [Act.put, List.setIfInBounds_toArray, List.set_cons_zero, List.set_cons_succ, i64_w, i32_w]
                  rfl
                refine pure_ (i := 1) (N := some 166) (v := ?_) (a' := ?_) #[true, true, false, false, false, false, false, false, false, false, false, false, false, false, false, false, false, false, false, false, false, false, false, false, false, false, false, false, false, false, false, false, false, false, false] rfl rfl (any_of HT_.out (by kernel_rfl)) (fun _ _ _ h => h) (Or.inl ⟨by rfl, ?_⟩) ?_ ?_
                rotate_left
                · intro w'
                  go_simp
                  with_reducible rfl
                rotate_left
                · simp only [Act.put, List.setIfInBounds_toArray, List.set_cons_zero, List.set_cons_succ, i64_w, i32_w]
                  rfl
                refine pure_ (i := 2) (N := some 167) (v := ?_) (a' := ?_) #[true, true, true, false, false, false, false, false, false, false, false, false, false, false, false, false, false, false, false, false, false, false, false, false, false, false, false, false, false, false, false, false, false, false, false] rfl rfl (any_of HT_.out (by kernel_rfl)) (fun _ _ _ h => h) (Or.inl ⟨by rfl, ?_⟩) ?_ ?_
                rotate_left
                · intro w'
                  go_simp
                  with_reducible rfl
                rotate_left
                · simp only [Act.put, List.setIfInBounds_toArray, List.set_cons_zero, List.set_cons_succ, i64_w, i32_w]
                  rfl
                refine pure_ (i := 3) (N := some 168) (v := ?_) (a' := ?_) #[true, true, true, true, false, false, false, false, false, false, false, false, false, false, false, false, false, false, false, false, false, false, false, false, false, false, false, false, false, false, false, false, false, false, false] rfl rfl (any_of HT_.out (by kernel_rfl)) (fun _ _ _ h => h) (Or.inl ⟨by rfl, ?_⟩) ?_ ?_
                rotate_left
                · intro w'
                  go_simp
                  with_reducible rfl
                rotate_left
                · simp only [Act.put, List.setIfInBounds_toArray, List.set_cons_zero, List.set_cons_succ, i64_w, i32_w]
                  rfl
                refine take_ (i := 4) (N := some 169) (v := ?_) (a' := ?_) #[true, true, true, true, true, false, false, false, false, false, false, false, false, false, false, false, false, false, false, false, false, false, false, false, false, false, false, false, false, false, false, false, false, false, false] rfl rfl (take_ofW HT_.out HW_.out (by kernel_rfl)) (fun _ _ _ h => h) (Or.inl ⟨by rfl, ?_⟩) hHeld ?_ ?_
                rotate_left
                · rintro w' ⟨s0, s1, s2, s3, s4⟩
                  go_simp
                  with_reducible rfl
                rotate_left
                · simp only [Act.put, List.setIfInBounds_toArray, List.set_cons_zero, List.set_cons_succ, i64_w, i32_w]
                  rfl
                refine take_ (i := 5) (N := some 170) (v := ?_) (a' := ?_) #[true, true, true, true, true, true, false, false, false, false, false, false, false, false, false, false, false, false, false, false, false, false, false, false, false, false, false, false, false, false, false, false, false, false, false] rfl rfl (take_ofW HT_.out HW_.out (by kernel_rfl)) (fun _ _ _ h => h) (Or.inl ⟨by rfl, ?_⟩) hHeld ?_ ?_
                rotate_left
                · rintro w' ⟨s0, s1, s2, s3, s4⟩
                  go_simp
                  with_reducible rfl
                rotate_left
                · simp only [Act.put, List.setIfInBounds_toArray, List.set_cons_zero, List.set_cons_succ, i64_w, i32_w]
                  rfl
                refine pure_ (i := 6) (N := some 171) (v := ?_) (a' := ?_) #[true, true, true, true, true, true, true, false, false, false, false, false, false, false, false, false, false, false, false, false, false, false, false, false, false, false, false, false, false, false, false, false, false, false, false] rfl rfl (any_of HT_.out (by kernel_rfl)) (fun _ _ _ h => h) (Or.inl ⟨by rfl, ?_⟩) ?_ ?_
                rotate_left
                · intro w'
                  go_simp
                  with_reducible rfl
                rotate_left
                · simp only [Act.put, List.setIfInBounds_toArray, List.set_cons_zero, List.set_cons_succ, i64_w, i32_w]
                  rfl
                refine pure_ (i := 7) (N := some 172) (v := undef) (a' := ?_) #[true, true, true, true, true, true, true, true, false, false, false, false, false, false, false, false, false, false, false, false, false, false, false, false, false, false, false, false, false, false, false, false, false, false, false] rfl rfl (any_of HT_.out (by kernel_rfl)) (fun _ _ _ h => h) (Or.inr ⟨by rfl, rfl⟩) ?_ ?_
                rotate_left
                · simp only [Act.put, List.setIfInBounds_toArray, List.set_cons_zero, List.set_cons_succ, i64_w, i32_w]
                  rfl
                refine pure_ (i := 8) (N := some 173) (v := undef) (a' := ?_) #[true, true, true, true, true, true, true, true, true, false, false, false, false, false, false, false, false, false, false, false, false, false, false, false, false, false, false, false, false, false, false, false, false, false, false] rfl rfl (any_of HT_.out (by kernel_rfl)) (fun _ _ _ h => h) (Or.inr ⟨by rfl, rfl⟩) ?_ ?_
                rotate_left
                · simp only [Act.put, List.setIfInBounds_toArray, List.set_cons_zero, List.set_cons_succ, i64_w, i32_w]
                  rfl
                refine pure_ (i := 9) (N := some 174) (v := undef) (a' := ?_) #[true, true, true, true, true, true, true, true, true, true, false, false, false, false, false, false, false, false, false, false, false, false, false, false, false, false, false, false, false, false, false, false, false, false, false] rfl rfl (any_of HT_.out (by kernel_rfl)) (fun _ _ _ h => h) (Or.inr ⟨by rfl, rfl⟩) ?_ ?_
                rotate_left
                · simp only [Act.put, List.setIfInBounds_toArray, List.set_cons_zero, List.set_cons_succ, i64_w, i32_w]
                  rfl
                refine pure_ (i := 10) (N := some 175) (v := undef) (a' := ?_) #[true, true, true, true, true, true, true, true, true, true, true, false, false, false, false, false, false, false, false, false, false, false, false, false, false, false, false, false, false, false, false, false, false, false, false] rfl rfl (any_of HT_.out (by kernel_rfl)) (fun _ _ _ h => h) (Or.inr ⟨by rfl, rfl⟩) ?_ ?_
                rotate_left
                · simp only [Act.put, List.setIfInBounds_toArray, List.set_cons_zero, List.set_cons_succ, i64_w, i32_w]
                  rfl
                refine pure_ (i := 11) (N := some 176) (v := undef) (a' := ?_) #[true, true, true, true, true, true, true, true, true, true, true, true, false, false, false, false, false, false, false, false, false, false, false, false, false, false, false, false, false, false, false, false, false, false, false] rfl rfl (any_of HT_.out (by kernel_rfl)) (fun _ _ _ h => h) (Or.inr ⟨by rfl, rfl⟩) ?_ ?_
                rotate_left
                · simp only [Act.put, List.setIfInBounds_toArray, List.set_cons_zero, List.set_cons_succ, i64_w, i32_w]
                  rfl
                refine pure_ (i := 12) (N := some 177) (v := undef) (a' := ?_) #[true, true, true, true, true, true, true, true, true, true, true, true, true, false, false, false, false, false, false, false, false, false, false, false, false, false, false, false, false, false, false, false, false, false, false] rfl rfl (any_of HT_.out (by kernel_rfl)) (fun _ _ _ h => h) (Or.inr ⟨by rfl, rfl⟩) ?_ ?_
                rotate_left
                · simp only [Act.put, List.setIfInBounds_toArray, List.set_cons_zero, List.set_cons_succ, i64_w, i32_w]
                  rfl
                refine pure_ (i := 13) (N := some 178) (v := undef) (a' := ?_) #[true, true, true, true, true, true, true, true, true, true, true, true, true, true, false, false, false, false, false, false, false, false, false, false, false, false, false, false, false, false, false, false, false, false, false] rfl rfl (any_of HT_.out (by kernel_rfl)) (fun _ _ _ h => h) (Or.inr ⟨by rfl, rfl⟩) ?_ ?_
                rotate_left
                · simp only [Act.put, List.setIfInBounds_toArray, List.set_cons_zero, List.set_cons_succ, i64_w, i32_w]
                  rfl
                refine pure_ (i := 14) (N := some 179) (v := undef) (a' := ?_) #[true, true, true, true, true, true, true, true, true, true, true, true, true, true, true, false, false, false, false, false, false, false, false, false, false, false, false, false, false, false, false, false, false, false, false] rfl rfl (any_of HT_.out (by kernel_rfl)) (fun _ _ _ h => h) (Or.inr ⟨by rfl, rfl⟩) ?_ ?_
                rotate_left
                · simp only [Act.put, List.setIfInBounds_toArray, List.set_cons_zero, List.set_cons_succ, i64_w, i32_w]
                  rfl
                refine pure_ (i := 15) (N := some 180) (v := undef) (a' := ?_) #[true, true, true, true, true, true, true, true, true, true, true, true, true, true, true, true, false, false, false, false, false, false, false, false, false, false, false, false, false, false, false, false, false, false, false] rfl rfl (any_of HT_.out (by kernel_rfl)) (fun _ _ _ h => h) (Or.inr ⟨by rfl, rfl⟩) ?_ ?_
                rotate_left
                · simp only [Act.put, List.setIfInBounds_toArray, List.set_cons_zero, List.set_cons_succ, i64_w, i32_w]
                  rfl
                refine pure_ (i := 16) (N := some 181) (v := undef) (a' := ?_) #[true, true, true, true, true, true, true, true, true, true, true, true, true, true, true, true, true, false, false, false, false, false, false, false, false, false, false, false, false, false, false, false, false, false, false] rfl rfl (any_of HT_.out (by kernel_rfl)) (fun _ _ _ h => h) (Or.inr ⟨by rfl, rfl⟩) ?_ ?_
                rotate_left
                · simp only [Act.put, List.setIfInBounds_toArray, List.set_cons_zero, List.set_cons_succ, i64_w, i32_w]
                  rfl
                refine pure_ (i := 17) (N := some 182) (v := ?_) (a' := ?_) #[true, true, true, true, true, true, true, true, true, true, true, true, true, true, true, true, true, true, false, false, false, false, false, false, false, false, false, false, false, false, false, false, false, false, false] rfl rfl (any_of HT_.out (by kernel_rfl)) (fun _ _ _ h => h) (Or.inl ⟨by rfl, ?_⟩) ?_ ?_
                rotate_left
                · intro w'
                  go_simp
                  with_reducible rfl
                rotate_left
                · simp only [Act.put, List.setIfInBounds_toArray, List.set_cons_zero, List.set_cons_succ, i64_w, i32_w]
                  rfl
                refine pure_ (i := 18) (N := some 183) (v := ?_) (a' := ?_) #[true, true, true, true, true, true, true, true, true, true, true, true, true, true, true, true, true, true, true, false, false, false, false, false, false, false, false, false, false, false, false, false, false, false, false] rfl rfl (any_of HT_.out (by kernel_rfl)) (fun _ _ _ h => h) (Or.inl ⟨by rfl, ?_⟩) ?_ ?_
                rotate_left
                · intro w'
                  go_simp
                  with_reducible rfl
                rotate_left
                · simp only [Act.put, List.setIfInBounds_toArray, List.set_cons_zero, List.set_cons_succ, i64_w, i32_w]
                  rfl
                refine pure_ (i := 19) (N := some 184) (v := ?_) (a' := ?_) #[true, true, true, true, true, true, true, true, true, true, true, true, true, true, true, true, true, true, true, true, false, false, false, false, false, false, false, false, false, false, false, false, false, false, false] rfl rfl (any_of HT_.out (by kernel_rfl)) (fun _ _ _ h => h) (Or.inl ⟨by rfl, ?_⟩) ?_ ?_
                rotate_left
                · intro w'
                  go_simp
                  with_reducible rfl
                rotate_left
                · simp only [Act.put, List.setIfInBounds_toArray, List.set_cons_zero, List.set_cons_succ, i64_w, i32_w]
                  rfl
                refine pure_ (i := 20) (N := some 185) (v := ?_) (a' := ?_) #[true, true, true, true, true, true, true, true, true, true, true, true, true, true, true, true, true, true, true, true, true, false, false, false, false, false, false, false, false, false, false, false, false, false, false] rfl rfl (any_of HT_.out (by kernel_rfl)) (fun _ _ _ h => h) (Or.inl ⟨by rfl, ?_⟩) ?_ ?_
                rotate_left
                · intro w'
                  go_simp
                  with_reducible rfl
                rotate_left
                · simp only [Act.put, List.setIfInBounds_toArray, List.set_cons_zero, List.set_cons_succ, i64_w, i32_w]
                  rfl
                refine pure_ (i := 21) (N := some 186) (v := ?_) (a' := ?_) #[true, true, true, true, true, true, true, true, true, true, true, true, true, true, true, true, true, true, true, true, true, true, false, false, false, false, false, false, false, false, false, false, false, false, false] rfl rfl (any_of HT_.out (by kernel_rfl)) (fun _ _ _ h => h) (Or.inl ⟨by rfl, ?_⟩) ?_ ?_
                rotate_left
                · intro w'
                  go_simp
                  with_reducible rfl
                rotate_left
                · simp only [Act.put, List.setIfInBounds_toArray, List.set_cons_zero, List.set_cons_succ, i64_w, i32_w]
                  rfl
                refine pure_ (i := 23) (N := some 188) (v := ?_) (a' := ?_) #[true, true, true, true, true, true, true, true, true, true, true, true, true, true, true, true, true, true, true, true, true, true, false, true, false, false, false, false, false, false, false, false, false, false, false] rfl rfl (any_of HT_.out (by kernel_rfl)) (fun _ _ _ h => h) (Or.inl ⟨by rfl, ?_⟩) ?_ ?_
                rotate_left
                · intro w'
                  go_simp
                  with_reducible rfl
                rotate_left
                · simp only [Act.put, List.setIfInBounds_toArray, List.set_cons_zero, List.set_cons_succ, i64_w, i32_w]
                  rfl
                refine take_ (i := 22) (N := some 187) (v := ?_) (a' := ?_) #[true, true, true, true, true, true, true, true, true, true, true, true, true, true, true, true, true, true, true, true, true, true, true, true, false, false, false, false, false, false, false, false, false, false, false] rfl rfl (take_ofW HT_.out HW_.out (by kernel_rfl)) (fun _ _ _ h => h) (Or.inl ⟨by rfl, ?_⟩) hHeld ?_ ?_
                rotate_left
                · rintro w' ⟨s0, s1, s2, s3, s4⟩
                  go_simp
                  with_reducible rfl
                rotate_left
                · simp only [Act.put, List.setIfInBounds_toArray, List.set_cons_zero, List.set_cons_succ, i64_w, i32_w]
                  rfl
                refine pure_ (i := 24) (N := some 189) (v := ?_) (a' := ?_) #[true, true, true, true, true, true, true, true, true, true, true, true, true, true, true, true, true, true, true, true, true, true, true, true, true, false, false, false, false, false, false, false, false, false, false] rfl rfl (any_of HT_.out (by kernel_rfl)) (fun _ _ _ h => h) (Or.inl ⟨by rfl, ?_⟩) ?_ ?_
                rotate_left
                · intro w'
                  go_simp
                  with_reducible rfl
                rotate_left
                · simp only [Act.put, List.setIfInBounds_toArray, List.set_cons_zero, List.set_cons_succ, i64_w, i32_w]
                  rfl
                refine pure_ (i := 25) (N := some 190) (v := ?_) (a' := ?_) #[true, true, true, true, true, true, true, true, true, true, true, true, true, true, true, true, true, true, true, true, true, true, true, true, true, true, false, false, false, false, false, false, false, false, false] rfl rfl (any_of HT_.out (by kernel_rfl)) (fun _ _ _ h => h) (Or.inl ⟨by rfl, ?_⟩) ?_ ?_
                rotate_left
                · intro w'
                  go_simp
                  with_reducible rfl
                rotate_left
                · simp only [Act.put, List.setIfInBounds_toArray, List.set_cons_zero, List.set_cons_succ, i64_w, i32_w]
                  rfl
                refine pure_ (i := 26) (N := some 191) (v := ?_) (a' := ?_) #[true, true, true, true, true, true, true, true, true, true, true, true, true, true, true, true, true, true, true, true, true, true, true, true, true, true, true, false, false, false, false, false, false, false, false] rfl rfl (any_of HT_.out (by kernel_rfl)) (fun _ _ _ h => h) (Or.inl ⟨by rfl, ?_⟩) ?_ ?_
                rotate_left
                · intro w'
                  go_simp
                  with_reducible rfl
                rotate_left
                · simp only [Act.put, List.setIfInBounds_toArray, List.set_cons_zero, List.set_cons_succ, i64_w, i32_w]
                  rfl
                refine pure_ (i := 27) (N := some 192) (v := ?_) (a' := ?_) #[true, true, true, true, true, true, true, true, true, true, true, true, true, true, true, true, true, true, true, true, true, true, true, true, true, true, true, true, false, false, false, false, false, false, false] rfl rfl (any_of HT_.out (by kernel_rfl)) (fun _ _ _ h => h) (Or.inl ⟨by rfl, ?_⟩) ?_ ?_
                rotate_left
                · intro w'
                  go_simp
                  with_reducible rfl
                rotate_left
                · simp only [Act.put, List.setIfInBounds_toArray, List.set_cons_zero, List.set_cons_succ, i64_w, i32_w]
                  rfl
                refine pure_ (i := 28) (N := some 193) (v := ?_) (a' := ?_) #[true, true, true, true, true, true, true, true, true, true, true, true, true, true, true, true, true, true, true, true, true, true, true, true, true, true, true, true, true, false, false, false, false, false, false] rfl rfl (any_of HT_.out (by kernel_rfl)) (fun _ _ _ h => h) (Or.inl ⟨by rfl, ?_⟩) ?_ ?_
                rotate_left
                · intro w'
                  go_simp
                  with_reducible rfl
                rotate_left
                · simp only [Act.put, List.setIfInBounds_toArray, List.set_cons_zero, List.set_cons_succ, i64_w, i32_w]
                  rfl
                refine pure_ (i := 29) (N := some 194) (v := ?_) (a' := ?_) #[true, true, true, true, true, true, true, true, true, true, true, true, true, true, true, true, true, true, true, true, true, true, true, true, true, true, true, true, true, true, false, false, false, false, false] rfl rfl (any_of HT_.out (by kernel_rfl)) (fun _ _ _ h => h) (Or.inl ⟨by rfl, ?_⟩) ?_ ?_
                rotate_left
                · intro w'
                  go_simp
                  with_reducible rfl
                rotate_left
                · simp only [Act.put, List.setIfInBounds_toArray, List.set_cons_zero, List.set_cons_succ, i64_w, i32_w]
                  rfl
                refine take_ (i := 30) (N := some 195) (v := ?_) (a' := ?_) #[true, true, true, true, true, true, true, true, true, true, true, true, true, true, true, true, true, true, true, true, true, true, true, true, true, true, true, true, true, true, true, false, false, false, false] rfl rfl (take_ofW HT_.out HW_.out (by kernel_rfl)) (fun _ _ _ h => h) (Or.inl ⟨by rfl, ?_⟩) hHeld ?_ ?_
                rotate_left
                · rintro w' ⟨s0, s1, s2, s3, s4⟩
                  go_simp
                  with_reducible rfl
                rotate_left
                · simp only [Act.put, List.setIfInBounds_toArray, List.set_cons_zero, List.set_cons_succ, i64_w, i32_w]
                  rfl
                refine one_ (i := 31) (N := some 196) #[true, true, true, true, true, true, true, true, true, true, true, true, true, true, true, true, true, true, true, true, true, true, true, true, true, true, true, true, true, true, true, true, false, false, false] rfl rfl (one_of HT_.out (by kernel_rfl)) (by decide) (fun K hK => ?_)
                refine goes_ Try.func19 (by kernel_rfl) rfl #[.pointer (some ⟨T, 0, none⟩), .int .i64 z] (by rfl) rfl rfl (by (try simp only [List.map_toArray, List.map_cons, List.map_nil]); first | done | rfl) ?_
                with_reducible refine (has_st (HSc.out.below hHeld.1) z hzw.out).mono ?_
                rintro e w65 ⟨rfl, hb⟩
                rw [hze]
                have hS2 := keepS.out _ (below_then hHeld.1 hHeld.1.size hb)
                clear hb
                refine ⟨_, rfl, ?_⟩
                refine hK.out _ _ hS2 (fun hHeld => ?_)
                clear hK K
                refine norm_ (a' := ?_) ?_ ?_
                rotate_left
                · show Act.put _ (some 196) _ = _
                  simp only [Act.put, List.setIfInBounds_toArray, List.set_cons_zero, List.set_cons_succ, i64_w, i32_w]
                  rfl
                refine pure_ (i := 32) (N := some 197) (v := ?_) (a' := ?_) #[true, true, true, true, true, true, true, true, true, true, true, true, true, true, true, true, true, true, true, true, true, true, true, true, true, true, true, true, true, true, true, true, true, false, false] rfl rfl (any_of HT_.out (by kernel_rfl)) (fun _ _ _ h => h) (Or.inl ⟨by rfl, ?_⟩) ?_ ?_
                rotate_left
                · intro w'
                  go_simp
                  with_reducible rfl
                rotate_left
                · simp only [Act.put, List.setIfInBounds_toArray, List.set_cons_zero, List.set_cons_succ, i64_w, i32_w]
                  rfl
                refine pure_ (i := 33) (N := some 198) (v := ?_) (a' := ?_) #[true, true, true, true, true, true, true, true, true, true, true, true, true, true, true, true, true, true, true, true, true, true, true, true, true, true, true, true, true, true, true, true, true, true, false] rfl rfl (any_of HT_.out (by kernel_rfl)) (fun _ _ _ h => h) (Or.inl ⟨by rfl, ?_⟩) ?_ ?_
                rotate_left
                · intro w'
                  go_simp
                  with_reducible rfl
                rotate_left
                · simp only [Act.put, List.setIfInBounds_toArray, List.set_cons_zero, List.set_cons_succ, i64_w, i32_w]
                  rfl
                refine pure_ (i := 34) (N := some 199) (v := ?_) (a' := ?_) #[true, true, true, true, true, true, true, true, true, true, true, true, true, true, true, true, true, true, true, true, true, true, true, true, true, true, true, true, true, true, true, true, true, true, true] rfl rfl (any_of HT_.out (by kernel_rfl)) (fun _ _ _ h => h) (Or.inl ⟨by rfl, ?_⟩) ?_ ?_
                rotate_left
                · intro w'
                  go_simp
                  with_reducible rfl
                rotate_left
                · simp only [Act.put, List.setIfInBounds_toArray, List.set_cons_zero, List.set_cons_succ, i64_w, i32_w]
                  rfl
                refine done_ (done_of HT_.out (by kernel_rfl)) ?_
                go_wp2
                go_roundg k2
                case measure => omega
                case rel => exact ⟨j + 1, by omega, congrArg (Value.int .i64) (by first | (unfold wrap64; omega) | omega), Lib.hid (HSc.out.below hHeld.1), Lib.hid (MapT.below HMc.out hHeld.1), Lib.hid (MapT.below HNc.out hHeld.1), Lib.hid (HXc.out.below hHeld.1), Lib.hid (ints_below (W := w) HIc.out hHeld.1), Lib.hid (below_then HBc.out HBc.out.size hHeld.1)⟩
              · as_aux_lemma =>
                have dl : decide (atOf L z < atOf L out) = false := decide_eq_false (HG.out.least z hzm hiz)
                have keepS : RowKit.Hid (∀ W : World, Below wr.heap.size wr W → Below wr.heap.size wr W ∧ W.cell? (adz.add j) = some (.int .i64 z) ∧ (Instr.lookup 56 (.map (some m)) (.int .i64 z) false).run Try.prog W = .ok (.bool true) W ∧ (Instr.lookup 57 (.map (some m3)) (.int .i64 z) false).run Try.prog W = .ok (.int .i64 (atOf L z)) W ∧ (Instr.lookup 57 (.map (some m3)) (.int .i64 out) false).run Try.prog W = .ok (.int .i64 (atOf L out)) W) := fun W hb => ⟨hb, (hb.cell (World.block_lt_of_cell? _ _ s0)).trans s0, by rw [bmap_look (MapT.below HMc.out hb) hzw.out, HI.out, hiz], by rw [nmap_look (MapT.below HNc.out hb) hzw.out, hzz], by rw [nmap_look (MapT.below HNc.out hb) hwo, hoz]⟩
                have Z := Below.refl wr.heap.size wr
                go_upto_region 30 with fail
                clear s0 x0 x1 x2 x3
                refine start_ (n := 35) (S := (fun W => Below wr.heap.size wr W ∧ W.cell? (adz.add j) = some (.int .i64 z) ∧ (Instr.lookup 56 (.map (some m)) (.int .i64 z) false).run Try.prog W = .ok (.bool true) W ∧ (Instr.lookup 57 (.map (some m3)) (.int .i64 z) false).run Try.prog W = .ok (.int .i64 (atOf L z)) W ∧ (Instr.lookup 57 (.map (some m3)) (.int .i64 out) false).run Try.prog W = .ok (.int .i64 (atOf L out)) W)) (ds := []) #[false, false, false, false, false, false, false, false, false, false, false, false, false, false, false, false, false, false, false, false, false, false, false, false, false, false, false, false, false, false, false, false, false, false, false] (by kernel_rfl) rfl rfl (keepS.out _ (below_drew1 Z)) (fun hHeld => ?_)
                refine with_tabW TableGoes.tab30 TableGoes.bits30 (fun HT_ HW_ => ?_)
                refine pure_ (i := 0) (N := some 165) (v := ?_) (a' := ?_) #[true, false, false, false, false, false, false, false, false, false, false, false, false, false, false, false, false, false, false, false, false, false, false, false, false, false, false, false, false, false, false, false, false, false, false] rfl rfl (any_of HT_.out (by kernel_rfl)) (fun _ _ _ h => h) (Or.inl ⟨by rfl, ?_⟩) ?_ ?_
                rotate_left
                · intro w'
                  go_simp
                  with_reducible rfl
                rotate_left
                · simp only [Act.put, List.setIfInBounds_toArray, List.set_cons_zero, List.set_cons_succ, i64_w, i32_w]
                  rfl
                refine pure_ (i := 1) (N := some 166) (v := ?_) (a' := ?_) #[true, true, false, false, false, false, false, false, false, false, false, false, false, false, false, false, false, false, false, false, false, false, false, false, false, false, false, false, false, false, false, false, false, false, false] rfl rfl (any_of HT_.out (by kernel_rfl)) (fun _ _ _ h => h) (Or.inl ⟨by rfl, ?_⟩) ?_ ?_
                rotate_left
                · intro w'
                  go_simp
                  with_reducible rfl
                rotate_left
                · simp only [Act.put, List.setIfInBounds_toArray, List.set_cons_zero, List.set_cons_succ, i64_w, i32_w]
                  rfl
                refine pure_ (i := 2) (N := some 167) (v := ?_) (a' := ?_) #[true, true, true, false, false, false, false, false, false, false, false, false, false, false, false, false, false, false, false, false, false, false, false, false, false, false, false, false, false, false, false, false, false, false, false] rfl rfl (any_of HT_.out (by kernel_rfl)) (fun _ _ _ h => h) (Or.inl ⟨by rfl, ?_⟩) ?_ ?_
                rotate_left
                · intro w'
                  go_simp
                  with_reducible rfl
                rotate_left
                · simp only [Act.put, List.setIfInBounds_toArray, List.set_cons_zero, List.set_cons_succ, i64_w, i32_w]
                  rfl
                refine pure_ (i := 3) (N := some 168) (v := ?_) (a' := ?_) #[true, true, true, true, false, false, false, false, false, false, false, false, false, false, false, false, false, false, false, false, false, false, false, false, false, false, false, false, false, false, false, false, false, false, false] rfl rfl (any_of HT_.out (by kernel_rfl)) (fun _ _ _ h => h) (Or.inl ⟨by rfl, ?_⟩) ?_ ?_
                rotate_left
                · intro w'
                  go_simp
                  with_reducible rfl
                rotate_left
                · simp only [Act.put, List.setIfInBounds_toArray, List.set_cons_zero, List.set_cons_succ, i64_w, i32_w]
                  rfl
                refine take_ (i := 4) (N := some 169) (v := ?_) (a' := ?_) #[true, true, true, true, true, false, false, false, false, false, false, false, false, false, false, false, false, false, false, false, false, false, false, false, false, false, false, false, false, false, false, false, false, false, false] rfl rfl (take_ofW HT_.out HW_.out (by kernel_rfl)) (fun _ _ _ h => h) (Or.inl ⟨by rfl, ?_⟩) hHeld ?_ ?_
                rotate_left
                · rintro w' ⟨s0, s1, s2, s3, s4⟩
                  go_simp
                  with_reducible rfl
                rotate_left
                · simp only [Act.put, List.setIfInBounds_toArray, List.set_cons_zero, List.set_cons_succ, i64_w, i32_w]
                  rfl
                refine take_ (i := 5) (N := some 170) (v := ?_) (a' := ?_) #[true, true, true, true, true, true, false, false, false, false, false, false, false, false, false, false, false, false, false, false, false, false, false, false, false, false, false, false, false, false, false, false, false, false, false] rfl rfl (take_ofW HT_.out HW_.out (by kernel_rfl)) (fun _ _ _ h => h) (Or.inl ⟨by rfl, ?_⟩) hHeld ?_ ?_
                rotate_left
                · rintro w' ⟨s0, s1, s2, s3, s4⟩
                  go_simp
                  with_reducible rfl
                rotate_left
                · simp only [Act.put, List.setIfInBounds_toArray, List.set_cons_zero, List.set_cons_succ, i64_w, i32_w]
                  rfl
                refine pure_ (i := 6) (N := some 171) (v := ?_) (a' := ?_) #[true, true, true, true, true, true, true, false, false, false, false, false, false, false, false, false, false, false, false, false, false, false, false, false, false, false, false, false, false, false, false, false, false, false, false] rfl rfl (any_of HT_.out (by kernel_rfl)) (fun _ _ _ h => h) (Or.inl ⟨by rfl, ?_⟩) ?_ ?_
                rotate_left
                · intro w'
                  go_simp
                  with_reducible rfl
                rotate_left
                · simp only [Act.put, List.setIfInBounds_toArray, List.set_cons_zero, List.set_cons_succ, i64_w, i32_w]
                  rfl
                refine pure_ (i := 7) (N := some 172) (v := ?_) (a' := ?_) #[true, true, true, true, true, true, true, true, false, false, false, false, false, false, false, false, false, false, false, false, false, false, false, false, false, false, false, false, false, false, false, false, false, false, false] rfl rfl (any_of HT_.out (by kernel_rfl)) (fun _ _ _ h => h) (Or.inl ⟨by rfl, ?_⟩) ?_ ?_
                rotate_left
                · intro w'
                  go_simp
                  with_reducible rfl
                rotate_left
                · simp only [Act.put, List.setIfInBounds_toArray, List.set_cons_zero, List.set_cons_succ, i64_w, i32_w]
                  rfl
                refine pure_ (i := 8) (N := some 173) (v := ?_) (a' := ?_) #[true, true, true, true, true, true, true, true, true, false, false, false, false, false, false, false, false, false, false, false, false, false, false, false, false, false, false, false, false, false, false, false, false, false, false] rfl rfl (any_of HT_.out (by kernel_rfl)) (fun _ _ _ h => h) (Or.inl ⟨by rfl, ?_⟩) ?_ ?_
                rotate_left
                · intro w'
                  go_simp
                  with_reducible rfl
                rotate_left
                · simp only [Act.put, List.setIfInBounds_toArray, List.set_cons_zero, List.set_cons_succ, i64_w, i32_w]
                  rfl
                refine pure_ (i := 9) (N := some 174) (v := ?_) (a' := ?_) #[true, true, true, true, true, true, true, true, true, true, false, false, false, false, false, false, false, false, false, false, false, false, false, false, false, false, false, false, false, false, false, false, false, false, false] rfl rfl (any_of HT_.out (by kernel_rfl)) (fun _ _ _ h => h) (Or.inl ⟨by rfl, ?_⟩) ?_ ?_
                rotate_left
                · intro w'
                  go_simp
                  with_reducible rfl
                rotate_left
                · simp only [Act.put, List.setIfInBounds_toArray, List.set_cons_zero, List.set_cons_succ, i64_w, i32_w]
                  rfl
                refine pure_ (i := 10) (N := some 175) (v := ?_) (a' := ?_) #[true, true, true, true, true, true, true, true, true, true, true, false, false, false, false, false, false, false, false, false, false, false, false, false, false, false, false, false, false, false, false, false, false, false, false] rfl rfl (any_of HT_.out (by kernel_rfl)) (fun _ _ _ h => h) (Or.inl ⟨by rfl, ?_⟩) ?_ ?_
                rotate_left
                · intro w'
                  go_simp
                  with_reducible rfl
                rotate_left
                · simp only [Act.put, List.setIfInBounds_toArray, List.set_cons_zero, List.set_cons_succ, i64_w, i32_w]
                  rfl
                refine pure_ (i := 13) (N := some 178) (v := ?_) (a' := ?_) #[true, true, true, true, true, true, true, true, true, true, true, false, false, true, false, false, false, false, false, false, false, false, false, false, false, false, false, false, false, false, false, false, false, false, false] rfl rfl (any_of HT_.out (by kernel_rfl)) (fun _ _ _ h => h) (Or.inl ⟨by rfl, ?_⟩) ?_ ?_
                rotate_left
                · intro w'
                  go_simp
                  with_reducible rfl
                rotate_left
                · simp only [Act.put, List.setIfInBounds_toArray, List.set_cons_zero, List.set_cons_succ, i64_w, i32_w]
                  rfl
                refine pure_ (i := 14) (N := some 179) (v := ?_) (a' := ?_) #[true, true, true, true, true, true, true, true, true, true, true, false, false, true, true, false, false, false, false, false, false, false, false, false, false, false, false, false, false, false, false, false, false, false, false] rfl rfl (any_of HT_.out (by kernel_rfl)) (fun _ _ _ h => h) (Or.inl ⟨by rfl, ?_⟩) ?_ ?_
                rotate_left
                · intro w'
                  go_simp
                  with_reducible rfl
                rotate_left
                · simp only [Act.put, List.setIfInBounds_toArray, List.set_cons_zero, List.set_cons_succ, i64_w, i32_w]
                  rfl
                refine take_ (i := 11) (N := some 176) (v := ?_) (a' := ?_) #[true, true, true, true, true, true, true, true, true, true, true, true, false, true, true, false, false, false, false, false, false, false, false, false, false, false, false, false, false, false, false, false, false, false, false] rfl rfl (take_ofW HT_.out HW_.out (by kernel_rfl)) (fun _ _ _ h => h) (Or.inl ⟨by rfl, ?_⟩) hHeld ?_ ?_
                rotate_left
                · rintro w' ⟨s0, s1, s2, s3, s4⟩
                  go_simp
                  with_reducible rfl
                rotate_left
                · simp only [Act.put, List.setIfInBounds_toArray, List.set_cons_zero, List.set_cons_succ, i64_w, i32_w]
                  rfl
                refine take_ (i := 12) (N := some 177) (v := ?_) (a' := ?_) #[true, true, true, true, true, true, true, true, true, true, true, true, true, true, true, false, false, false, false, false, false, false, false, false, false, false, false, false, false, false, false, false, false, false, false] rfl rfl (take_ofW HT_.out HW_.out (by kernel_rfl)) (fun _ _ _ h => h) (Or.inl ⟨by rfl, ?_⟩) hHeld ?_ ?_
                rotate_left
                · rintro w' ⟨s0, s1, s2, s3, s4⟩
                  go_simp
                  with_reducible rfl
                rotate_left
                · simp only [Act.put, List.setIfInBounds_toArray, List.set_cons_zero, List.set_cons_succ, i64_w, i32_w]
                  rfl
                refine take_ (i := 15) (N := some 180) (v := ?_) (a' := ?_) #[true, true, true, true, true, true, true, true, true, true, true, true, true, true, true, true, false, false, false, false, false, false, false, false, false, false, false, false, false, false, false, false, false, false, false] rfl rfl (take_ofW HT_.out HW_.out (by kernel_rfl)) (fun _ _ _ h => h) (Or.inl ⟨by rfl, ?_⟩) hHeld ?_ ?_
                rotate_left
                · rintro w' ⟨s0, s1, s2, s3, s4⟩
                  go_simp
                  with_reducible rfl
                rotate_left
                · simp only [Act.put, List.setIfInBounds_toArray, List.set_cons_zero, List.set_cons_succ, i64_w, i32_w]
                  rfl
                refine pure_ (i := 16) (N := some 181) (v := ?_) (a' := ?_) #[true, true, true, true, true, true, true, true, true, true, true, true, true, true, true, true, true, false, false, false, false, false, false, false, false, false, false, false, false, false, false, false, false, false, false] rfl rfl (any_of HT_.out (by kernel_rfl)) (fun _ _ _ h => h) (Or.inl ⟨by rfl, ?_⟩) ?_ ?_
                rotate_left
                · intro w'
                  go_simp
                  with_reducible rfl
                rotate_left
                · simp only [Act.put, List.setIfInBounds_toArray, List.set_cons_zero, List.set_cons_succ, i64_w, i32_w]
                  rfl
                refine pure_ (i := 17) (N := some 182) (v := ?_) (a' := ?_) #[true, true, true, true, true, true, true, true, true, true, true, true, true, true, true, true, true, true, false, false, false, false, false, false, false, false, false, false, false, false, false, false, false, false, false] rfl rfl (any_of HT_.out (by kernel_rfl)) (fun _ _ _ h => h) (Or.inl ⟨by rfl, ?_⟩) ?_ ?_
                rotate_left
                · intro w'
                  go_simp
                  with_reducible rfl
                rotate_left
                · simp only [Act.put, List.setIfInBounds_toArray, List.set_cons_zero, List.set_cons_succ, i64_w, i32_w]
                  rfl
                refine pure_ (i := 18) (N := some 183) (v := ?_) (a' := ?_) #[true, true, true, true, true, true, true, true, true, true, true, true, true, true, true, true, true, true, true, false, false, false, false, false, false, false, false, false, false, false, false, false, false, false, false] rfl rfl (any_of HT_.out (by kernel_rfl)) (fun _ _ _ h => h) (Or.inl ⟨by rfl, ?_⟩) ?_ ?_
                rotate_left
                · intro w'
                  go_simp
                  with_reducible rfl
                rotate_left
                · simp only [Act.put, List.setIfInBounds_toArray, List.set_cons_zero, List.set_cons_succ, i64_w, i32_w]
                  rfl
                refine pure_ (i := 19) (N := some 184) (v := ?_) (a' := ?_) #[true, true, true, true, true, true, true, true, true, true, true, true, true, true, true, true, true, true, true, true, false, false, false, false, false, false, false, false, false, false, false, false, false, false, false] rfl rfl (any_of HT_.out (by kernel_rfl)) (fun _ _ _ h => h) (Or.inl ⟨by rfl, ?_⟩) ?_ ?_
                rotate_left
                · intro w'
                  go_simp
                  with_reducible rfl
                rotate_left
                · simp only [Act.put, List.setIfInBounds_toArray, List.set_cons_zero, List.set_cons_succ, i64_w, i32_w]
                  rfl
                refine pure_ (i := 20) (N := some 185) (v := ?_) (a' := ?_) #[true, true, true, true, true, true, true, true, true, true, true, true, true, true, true, true, true, true, true, true, true, false, false, false, false, false, false, false, false, false, false, false, false, false, false] rfl rfl (any_of HT_.out (by kernel_rfl)) (fun _ _ _ h => h) (Or.inl ⟨by rfl, ?_⟩) ?_ ?_
                rotate_left
                · intro w'
                  go_simp
                  with_reducible rfl
                rotate_left
                · simp only [Act.put, List.setIfInBounds_toArray, List.set_cons_zero, List.set_cons_succ, i64_w, i32_w]
                  rfl
                refine pure_ (i := 21) (N := some 186) (v := ?_) (a' := ?_) #[true, true, true, true, true, true, true, true, true, true, true, true, true, true, true, true, true, true, true, true, true, true, false, false, false, false, false, false, false, false, false, false, false, false, false] rfl rfl (any_of HT_.out (by kernel_rfl)) (fun _ _ _ h => h) (Or.inl ⟨by rfl, ?_⟩) ?_ ?_
                rotate_left
                · intro w'
                  go_simp
                  with_reducible rfl
                rotate_left
                · simp only [Act.put, List.setIfInBounds_toArray, List.set_cons_zero, List.set_cons_succ, i64_w, i32_w]
                  rfl
                refine pure_ (i := 23) (N := some 188) (v := ?_) (a' := ?_) #[true, true, true, true, true, true, true, true, true, true, true, true, true, true, true, true, true, true, true, true, true, true, false, true, false, false, false, false, false, false, false, false, false, false, false] rfl rfl (any_of HT_.out (by kernel_rfl)) (fun _ _ _ h => h) (Or.inl ⟨by rfl, ?_⟩) ?_ ?_
                rotate_left
                · intro w'
                  go_simp
                  with_reducible rfl
                rotate_left
                · simp only [Act.put, List.setIfInBounds_toArray, List.set_cons_zero, List.set_cons_succ, i64_w, i32_w]
                  rfl
                refine take_ (i := 22) (N := some 187) (v := ?_) (a' := ?_) #[true, true, true, true, true, true, true, true, true, true, true, true, true, true, true, true, true, true, true, true, true, true, true, true, false, false, false, false, false, false, false, false, false, false, false] rfl rfl (take_ofW HT_.out HW_.out (by kernel_rfl)) (fun _ _ _ h => h) (Or.inl ⟨by rfl, ?_⟩) hHeld ?_ ?_
                rotate_left
                · rintro w' ⟨s0, s1, s2, s3, s4⟩
                  go_simp
                  with_reducible rfl
                rotate_left
                · simp only [Act.put, List.setIfInBounds_toArray, List.set_cons_zero, List.set_cons_succ, i64_w, i32_w]
                  rfl
                refine pure_ (i := 24) (N := some 189) (v := ?_) (a' := ?_) #[true, true, true, true, true, true, true, true, true, true, true, true, true, true, true, true, true, true, true, true, true, true, true, true, true, false, false, false, false, false, false, false, false, false, false] rfl rfl (any_of HT_.out (by kernel_rfl)) (fun _ _ _ h => h) (Or.inl ⟨by rfl, ?_⟩) ?_ ?_
                rotate_left
                · intro w'
                  go_simp
                  with_reducible rfl
                rotate_left
                · simp only [Act.put, List.setIfInBounds_toArray, List.set_cons_zero, List.set_cons_succ, i64_w, i32_w]
                  rfl
                refine pure_ (i := 25) (N := some 190) (v := ?_) (a' := ?_) #[true, true, true, true, true, true, true, true, true, true, true, true, true, true, true, true, true, true, true, true, true, true, true, true, true, true, false, false, false, false, false, false, false, false, false] rfl rfl (any_of HT_.out (by kernel_rfl)) (fun _ _ _ h => h) (Or.inl ⟨by rfl, ?_⟩) ?_ ?_
                rotate_left
                · intro w'
                  go_simp
                  with_reducible rfl
                rotate_left
                · simp only [Act.put, List.setIfInBounds_toArray, List.set_cons_zero, List.set_cons_succ, i64_w, i32_w]
                  rfl
                refine pure_ (i := 26) (N := some 191) (v := ?_) (a' := ?_) #[true, true, true, true, true, true, true, true, true, true, true, true, true, true, true, true, true, true, true, true, true, true, true, true, true, true, true, false, false, false, false, false, false, false, false] rfl rfl (any_of HT_.out (by kernel_rfl)) (fun _ _ _ h => h) (Or.inl ⟨by rfl, ?_⟩) ?_ ?_
                rotate_left
                · intro w'
                  go_simp
                  with_reducible rfl
                rotate_left
                · simp only [Act.put, List.setIfInBounds_toArray, List.set_cons_zero, List.set_cons_succ, i64_w, i32_w]
                  rfl
                refine pure_ (i := 27) (N := some 192) (v := ?_) (a' := ?_) #[true, true, true, true, true, true, true, true, true, true, true, true, true, true, true, true, true, true, true, true, true, true, true, true, true, true, true, true, false, false, false, false, false, false, false] rfl rfl (any_of HT_.out (by kernel_rfl)) (fun _ _ _ h => h) (Or.inl ⟨by rfl, ?_⟩) ?_ ?_
                rotate_left
                · intro w'
                  go_simp
                  with_reducible rfl
                rotate_left
                · simp only [Act.put, List.setIfInBounds_toArray, List.set_cons_zero, List.set_cons_succ, i64_w, i32_w]
                  rfl
                refine pure_ (i := 28) (N := some 193) (v := ?_) (a' := ?_) #[true, true, true, true, true, true, true, true, true, true, true, true, true, true, true, true, true, true, true, true, true, true, true, true, true, true, true, true, true, false, false, false, false, false, false] rfl rfl (any_of HT_.out (by kernel_rfl)) (fun _ _ _ h => h) (Or.inl ⟨by rfl, ?_⟩) ?_ ?_
                rotate_left
                · intro w'
                  go_simp
                  with_reducible rfl
                rotate_left
                · simp only [Act.put, List.setIfInBounds_toArray, List.set_cons_zero, List.set_cons_succ, i64_w, i32_w]
                  rfl
                refine pure_ (i := 29) (N := some 194) (v := ?_) (a' := ?_) #[true, true, true, true, true, true, true, true, true, true, true, true, true, true, true, true, true, true, true, true, true, true, true, true, true, true, true, true, true, true, false, false, false, false, false] rfl rfl (any_of HT_.out (by kernel_rfl)) (fun _ _ _ h => h) (Or.inl ⟨by rfl, ?_⟩) ?_ ?_
                rotate_left
                · intro w'
                  go_simp
                  with_reducible rfl
                rotate_left
                · simp only [Act.put, List.setIfInBounds_toArray, List.set_cons_zero, List.set_cons_succ, i64_w, i32_w]
                  rfl
                refine take_ (i := 30) (N := some 195) (v := ?_) (a' := ?_) #[true, true, true, true, true, true, true, true, true, true, true, true, true, true, true, true, true, true, true, true, true, true, true, true, true, true, true, true, true, true, true, false, false, false, false] rfl rfl (take_ofW HT_.out HW_.out (by kernel_rfl)) (fun _ _ _ h => h) (Or.inl ⟨by rfl, ?_⟩) hHeld ?_ ?_
                rotate_left
                · rintro w' ⟨s0, s1, s2, s3, s4⟩
                  go_simp
                  with_reducible rfl
                rotate_left
                · simp only [Act.put, List.setIfInBounds_toArray, List.set_cons_zero, List.set_cons_succ, i64_w, i32_w]
                  rfl
                refine one_ (i := 31) (N := some 196) #[true, true, true, true, true, true, true, true, true, true, true, true, true, true, true, true, true, true, true, true, true, true, true, true, true, true, true, true, true, true, true, true, false, false, false] rfl rfl (one_of HT_.out (by kernel_rfl)) (by decide) (fun K hK => ?_)
                refine goes_ Try.func19 (by kernel_rfl) rfl #[.pointer (some ⟨T, 0, none⟩), .int .i64 z] (by rfl) rfl rfl (by (try simp only [List.map_toArray, List.map_cons, List.map_nil]); first | done | rfl) ?_
                with_reducible refine (has_st (HSc.out.below hHeld.1) z hzw.out).mono ?_
                rintro e w65 ⟨rfl, hb⟩
                rw [hze]
                have hS2 := keepS.out _ (below_then hHeld.1 hHeld.1.size hb)
                clear hb
                refine ⟨_, rfl, ?_⟩
                refine hK.out _ _ hS2 (fun hHeld => ?_)
                clear hK K
                refine norm_ (a' := ?_) ?_ ?_
                rotate_left
                · show Act.put _ (some 196) _ = _
                  simp only [Act.put, List.setIfInBounds_toArray, List.set_cons_zero, List.set_cons_succ, i64_w, i32_w]
                  rfl
                refine pure_ (i := 32) (N := some 197) (v := ?_) (a' := ?_) #[true, true, true, true, true, true, true, true, true, true, true, true, true, true, true, true, true, true, true, true, true, true, true, true, true, true, true, true, true, true, true, true, true, false, false] rfl rfl (any_of HT_.out (by kernel_rfl)) (fun _ _ _ h => h) (Or.inl ⟨by rfl, ?_⟩) ?_ ?_
                rotate_left
                · intro w'
                  go_simp
                  with_reducible rfl
                rotate_left
                · simp only [Act.put, List.setIfInBounds_toArray, List.set_cons_zero, List.set_cons_succ, i64_w, i32_w]
                  rfl
                refine pure_ (i := 33) (N := some 198) (v := ?_) (a' := ?_) #[true, true, true, true, true, true, true, true, true, true, true, true, true, true, true, true, true, true, true, true, true, true, true, true, true, true, true, true, true, true, true, true, true, true, false] rfl rfl (any_of HT_.out (by kernel_rfl)) (fun _ _ _ h => h) (Or.inl ⟨by rfl, ?_⟩) ?_ ?_
                rotate_left
                · intro w'
                  go_simp
                  with_reducible rfl
                rotate_left
                · simp only [Act.put, List.setIfInBounds_toArray, List.set_cons_zero, List.set_cons_succ, i64_w, i32_w]
                  rfl
                refine pure_ (i := 34) (N := some 199) (v := ?_) (a' := ?_) #[true, true, true, true, true, true, true, true, true, true, true, true, true, true, true, true, true, true, true, true, true, true, true, true, true, true, true, true, true, true, true, true, true, true, true] rfl rfl (any_of HT_.out (by kernel_rfl)) (fun _ _ _ h => h) (Or.inl ⟨by rfl, ?_⟩) ?_ ?_
                rotate_left
                · intro w'
                  go_simp
                  with_reducible rfl
                rotate_left
                · simp only [Act.put, List.setIfInBounds_toArray, List.set_cons_zero, List.set_cons_succ, i64_w, i32_w]
                  rfl
                refine done_ (done_of HT_.out (by kernel_rfl)) ?_
                go_wp2
                go_roundg k2
                case measure => omega
                case rel => exact ⟨j + 1, by omega, congrArg (Value.int .i64) (by first | (unfold wrap64; omega) | omega), Lib.hid (HSc.out.below hHeld.1), Lib.hid (MapT.below HMc.out hHeld.1), Lib.hid (MapT.below HNc.out hHeld.1), Lib.hid (HXc.out.below hHeld.1), Lib.hid (ints_below (W := w) HIc.out hHeld.1), Lib.hid (below_then HBc.out HBc.out.size hHeld.1)⟩
            · as_aux_lemma =>
              have d6 : decide ((j : Int) < ((sortL L).length : Int)) = false := decide_eq_false (by omega)
              go_wp2_with (first
                | (at_delete; refine wpList_drop _ rfl _ _ _ rfl HMc.out keyedI Try.underlying56 rfl out rfl (by rw [keyZ hwo]; rfl) (fun j => if j = out then none else f j) (fun a ha => if_pos (encI_inj.1 ha)) (fun a ha => if_neg (fun e => ha (encI_inj.2 e))) ?_; intro W8 hm8 hm9; have HM8 := Lib.hid hm8; have HX8 := HXc.out.kept hm9.grown hqm; have HS8 := Lib.hid (HSc.out.kept hm9.grown hTm hbm); have HB8 := Lib.hid (below_row HBc.out hm9.grown hwm); clear hm8 hm9 x0 x1 x2 x3; obtain ⟨x0, x1, x2, x3⟩ := HX8.cells; simp only at x0 x1 x2 x3)
                | (at_delete; refine wpList_drop _ rfl _ _ _ rfl HM8.out keyedI Try.underlying56 rfl xc rfl (by rw [keyZ wc']; rfl) (fun j => if j = xc then none else if j = out then none else f j) (fun a ha => if_pos (encI_inj.1 ha)) (fun a ha => if_neg (fun e => ha (encI_inj.2 e))) ?_; intro W9 hm8 hm9))
              go_roundg k
              case measure => omega
              case rel => exact ⟨i + 1, L', _, by omega, congrArg (Value.int .i64) (by first | (unfold wrap64; omega) | omega), Lib.hid (HS8.out.kept hm9.grown hTm hbm), Lib.hid (MapT.mono hm8 (Nat.le_succ _)), Lib.hid (idle_del2 HI.out HG.out.idle), Lib.hid (below_row HB8.out hm9.grown hwm)⟩
    · as_aux_lemma =>
      have dd1 : decide ((i : Int) < (l.length : Int)) = false := decide_eq_false (by omega)
      go_wp2
      go_ret
      exact ⟨rfl, HB.out⟩
end Go.Proofs.Ytafndajnncfpkaa.Ty
namespace Go.Proofs.Ytafndajnncfpkaa.PA
open Go Go.RowKit Go.Proofs.YtafndajnncfpkaaW.PrintWords Go.Proofs.Ytafndajnncfpkaa.Tx Go.Proofs.Ytafndajnncfpkaa.Ro
set_option linter.unusedVariables false
theorem ostiarylaw20_TableGoes.calls (a0 : Int) (A1 : Option Addr) (c1 : Nat) (s1 : List Ac) (w : World) (hC : Kd.C kAc w A1 s1.length s1) (hl : s1.length ≤ c1) (h0 : (Lit.int .i64 a0).wf = true) (o1 : ∀ x ∈ s1, wfA x) : Calls Try.prog 7 #[.int .i64 a0, .slice A1 s1.length c1] w fun e w' => e = .returned (.bool true) ∧ Below w.heap.size w w' := Ty.goes_law a0 A1 c1 s1 w (acts_of_C hC) h0 o1
end Go.Proofs.Ytafndajnncfpkaa.PA
