/- Contracts by hand: the document's answer for which sets records are (ostiaryref22.Group); it tells what sets.Group tells. -/
import Derived.Outline
import Derived.Lib.Hide
import Derived.Deep.RegionLaw
import Derived.Deep.RegionHeld3
import Derived.Test.YtdkecfjeiookdaaGrRF
import Derived.Test.YtdkecfjeiookdaaGrPAx18
import Derived.Test.YtdkecfjeiookdaaGrPAx15
namespace Go.Proofs.Ytdkecfjeiookdaa.PA
open Go.RowKit Go.Maps Go.Proofs.YtdkecfjeiookdaaW.PrintWords Go.Proofs.YtdkecfjeiookdaaW.PrintLast Go.Proofs.YtdkecfjeiookdaaW.PrintMore Go.Proofs.Ytdkecfjeiookdaa.Mp
attribute [local go_sem] max2_int min2_int max_two min_two
set_option linter.unusedVariables false
set_option linter.unusedSimpArgs false

theorem lowS_data (a : ByteArray) : (lowS a).data = a.data.map lowB := by
  show (a.data.toList.map lowB).toArray = _
  rw [← Array.toList_map, Array.toArray_toList]
theorem lowS_extract (a : ByteArray) (i j : Nat) : (lowS a).extract i j = lowS (a.extract i j) := by
  apply ByteArray.ext
  rw [ByteArray.data_extract, lowS_data, lowS_data, ByteArray.data_extract, Array.map_extract]
theorem bt_low (a : ByteArray) : bt (lowS a) 0 = if 65 ≤ bt a 0 ∧ bt a 0 ≤ 90 then bt a 0 + 32 else bt a 0 := by
  unfold bt
  by_cases h : (0 : Int).toNat < a.size
  · rw [dif_pos h, dif_pos (by rw [lowS_size]; exact h)]
    have e : (lowS a)[(0 : Int).toNat]'(by rw [lowS_size]; exact h) = lowB (a[(0 : Int).toNat]'h) := by
      show (lowS a).data[(0 : Int).toNat]'_ = _
      simp only [lowS_data, Array.getElem_map]
      rfl
    rw [e]
    by_cases h2 : (65 : Int) ≤ ((a[(0 : Int).toNat]'h).toNat : Int) ∧ ((a[(0 : Int).toNat]'h).toNat : Int) ≤ 90
    · rw [if_pos h2, low_hi _ h2.1 h2.2]
    · rw [if_neg h2, low_lo _ h2]
  · rw [dif_neg h, dif_neg (by rw [lowS_size]; exact h)]
    rfl
theorem labs_low (d : Nat) : ∀ a : ByteArray, a.size = d → (labs (lowS a)).all (·.2) = (labs a).all (·.2) := by
  induction d using Nat.strongRecOn with
  | _ d ih =>
    intro a hd
    have hb := bt_low a
    have hr := bt_range a 0
    have hs := lowS_size a
    by_cases h1 : a.toList = [0]
    · have h0 := (one_zero a).1 h1
      rw [labs_end h1, labs_end ((one_zero _).2 ⟨by omega, by rw [hb, if_neg (by omega)]; exact h0.2⟩)]
    · have h1' : ¬ (lowS a).toList = [0] := fun h => by
        have h0 := (one_zero _).1 h
        rw [hb] at h0
        refine h1 ((one_zero a).2 ⟨by omega, ?_⟩)
        split at h0 <;> omega
      by_cases h2 : a.size = 0 ∨ bt a 0 = 0 ∨ bt a 0 > 63 ∨ bt a 0 ≥ a.size
      · rw [labs_bad h1 h2, labs_bad h1' (by rw [hb, hs]; split <;> omega)]
      · have hb' : bt (lowS a) 0 = bt a 0 := by rw [hb, if_neg (by omega)]
        rw [labs_go h1 h2, labs_go h1' (by rw [hb', hs]; exact h2), hb', hs, lowS_extract, lowS_extract]
        simp only [List.all_cons, Bool.true_and]
        exact ih (a.size - (1 + (bt a 0).toNat)) (by omega) _ (by rw [ByteArray.size_extract]; omega)
theorem okN_low (a : ByteArray) (h : a.size ≤ 4398046511104) : okN (lowS a) = okN a := by
  unfold okN name_Check.f name_Labels.f
  rw [lowS_size, labs_low a.size a rfl]
  by_cases h1 : ((labs a).all fun x => x.2) = true
  · rw [if_pos h1, if_pos h1]
    by_cases h2 : (a.size : Int) > 255
    · rw [if_pos h2, if_pos h2]
    · rw [if_neg h2, if_neg h2, if_pos h, if_pos h]
      rfl
  · rw [if_neg h1, if_neg h1]
def togR (s : S32) (r : S39) : Bool := togS s.f0 s.f1 s.f2 r.f0 r.f1 r.f2
theorem togR_key (s : S32) (r : S39) (hs : s.f0.size ≤ 4398046511104) (hr : r.f0.size ≤ 4398046511104) (ho : okN r.f0 = true) : togR s r = true ↔ keyS s = keyR r := by
  unfold togR togS sameN keyS keyR
  rw [ho]
  simp only [Bool.and_true, Bool.and_eq_true, decide_eq_true_eq, Prod.mk.injEq]
  constructor
  · rintro ⟨⟨⟨h1, h2⟩, h3⟩, h4⟩
    exact ⟨bytes_eq h2, h3, h4⟩
  · rintro ⟨h1, h2, h3⟩
    exact ⟨⟨⟨by rw [← okN_low s.f0 hs, h1, okN_low r.f0 hr, ho], by rw [h1]⟩, h2⟩, h3⟩
def refAt (out : List S32) (r : S39) : Nat → Int
  | 0 => -1
  | k + 1 => if togR (out.getD k z32) r = true then (k : Int) else refAt out r k
theorem refAt_bad (out : List S32) (r : S39) (ho : okN r.f0 = false) : ∀ k, refAt out r k = -1
  | 0 => rfl
  | k + 1 => by
    unfold refAt
    rw [if_neg, refAt_bad out r ho k]
    unfold togR togS sameN
    rw [ho]
    simp
theorem refAt_range (out : List S32) (r : S39) : ∀ k, -1 ≤ refAt out r k ∧ refAt out r k < (k : Int)
  | 0 => by unfold refAt; omega
  | k + 1 => by
    have := refAt_range out r k
    unfold refAt
    split <;> omega
theorem refAt_find (out : List S32) (r : S39) (hr : r.f0.size ≤ 4398046511104) (ho : okN r.f0 = true) (hs : ∀ s ∈ out, s.f0.size ≤ 4398046511104) : ∀ k, k ≤ out.length → refAt out r k = ((List.range k).reverse.find? (fun i => decide ((out.map keyS)[i]? = some (keyR r)))).elim (-1) (fun i => (i : Int))
  | 0, _ => rfl
  | k + 1, hk => by
    have hlt : k < out.length := by omega
    rw [List.range_succ, List.reverse_append, List.reverse_singleton, List.singleton_append, List.find?_cons]
    unfold refAt
    have e : (out.map keyS)[k]? = some (keyS (out.getD k z32)) := by rw [List.getElem?_map, List.getD_eq_getElem?_getD, List.getElem?_eq_getElem hlt]; rfl
    have hm := hs _ (getD_mem32 hlt)
    rw [e]
    by_cases h : keyS (out.getD k z32) = keyR r
    · rw [if_pos ((togR_key _ _ hm hr ho).2 h), decide_eq_true (by rw [h])]
      rfl
    · rw [if_neg (fun h2 => h ((togR_key _ _ hm hr ho).1 h2)), decide_eq_false (fun h2 => h (Option.some.inj h2))]
      exact refAt_find out r hr ho hs k (by omega)
def refNew (r : S39) : S32 := ⟨r.f0, r.f1, r.f2, r.f3, []⟩
def refOut (out : List S32) (r : S39) : List S32 := if refAt out r out.length < 0 then out ++ [refNew r] else out
def refIx (out : List S32) (r : S39) : Nat := if refAt out r out.length < 0 then out.length else (refAt out r out.length).toNat
theorem refIx_lt (out : List S32) (r : S39) : refIx out r < (refOut out r).length := by
  have := refAt_range out r out.length
  unfold refIx refOut
  split
  · simp
  · omega
theorem addTo_new (r : S39) : addTo (refNew r) r = newSet r := by
  unfold addTo refNew newSet mn
  simp
theorem refStep_is (out : List S32) (r : S39) (hr : r.f0.size ≤ 4398046511104) (hs : ∀ s ∈ out, s.f0.size ≤ 4398046511104) : groupStep out r = (refOut out r).set (refIx out r) (addTo ((refOut out r).getD (refIx out r) z32) r) := by
  have new : refAt out r out.length < 0 → (refOut out r).set (refIx out r) (addTo ((refOut out r).getD (refIx out r) z32) r) = out ++ [newSet r] := fun h => by
    unfold refOut refIx
    rw [if_pos h, if_pos h]
    simp [List.set_append, addTo_new]
  cases ho : okN r.f0 with
  | false =>
    rw [new (by rw [refAt_bad out r ho]; omega), groupStep_new _ _ (.inr (of_decide_eq_false ho))]
  | true =>
    have hf := refAt_find out r hr ho hs out.length (Nat.le_refl _)
    cases hl : lastIx (out.map keyS) (keyR r) with
    | none =>
      have hl' := hl
      unfold lastIx at hl'
      rw [List.length_map] at hl'
      rw [hl'] at hf
      rw [new (by rw [hf]; show (-1 : Int) < 0; omega), groupStep_new _ _ (.inl hl)]
    | some i =>
      have hl' := hl
      unfold lastIx at hl'
      rw [List.length_map] at hl'
      rw [hl'] at hf
      have hf' : refAt out r out.length = (i : Int) := hf
      rw [groupStep_old _ _ _ hl (of_decide_eq_true ho)]
      unfold refOut refIx
      rw [hf', if_neg (by omega), if_neg (by omega), Int.toNat_natCast]
theorem groupTo_names (l : List S39) (hl : ∀ r ∈ l, r.f0.size ≤ 4398046511104) : ∀ k, ∀ s ∈ groupTo l k, s.f0.size ≤ 4398046511104 := by
  have step : ∀ (m : List S39) (out : List S32), (∀ r ∈ m, r.f0.size ≤ 4398046511104) → (∀ s ∈ out, s.f0.size ≤ 4398046511104) → ∀ s ∈ m.foldl groupStep out, s.f0.size ≤ 4398046511104 := by
    intro m
    induction m with
    | nil => intro out _ h; exact h
    | cons r m ih =>
      intro out hm h
      refine ih (groupStep out r) (fun q hq => hm q (by simp [hq])) (fun s hs => ?_)
      have hr := hm r (by simp)
      unfold groupStep at hs
      split at hs
      · split at hs
        · rename_i i hi _
          have hil : i < out.length := by
            have := lastIx_some hi
            have := (List.getElem?_eq_some_iff.1 this).1
            simpa using this
          rcases List.mem_or_eq_of_mem_set hs with hs | rfl
          · exact h s hs
          · show (out.getD i z32).f0.size ≤ _
            exact h _ (getD_mem32 hil)
        · rcases List.mem_append.1 hs with hs | hs
          · exact h s hs
          · rw [List.mem_singleton.1 hs]; exact hr
      · rcases List.mem_append.1 hs with hs | hs
        · exact h s hs
        · rw [List.mem_singleton.1 hs]; exact hr
  intro k
  exact step (l.take k) [] (fun r hr => hl r (List.mem_of_mem_take hr)) (by simp)
theorem refOut_data (out : List S32) (r : S39) (N : Nat) (h : ∀ j, (out.getD j z32).f4.length ≤ N) (j : Nat) : ((refOut out r).getD j z32).f4.length ≤ N := by
  unfold refOut
  split
  · rw [List.getD_eq_getElem?_getD]
    rcases Nat.lt_or_ge j out.length with hj | hj
    · rw [List.getElem?_append_left hj, ← List.getD_eq_getElem?_getD]
      exact h j
    · rw [List.getElem?_append_right hj]
      rcases Nat.eq_zero_or_pos (j - out.length) with h0 | h0
      · rw [h0]; simp [refNew]
      · rw [List.getElem?_eq_none (by simp; omega)]; simp [z32]
  · exact h j
theorem refOut_length (out : List S32) (r : S39) : (refOut out r).length ≤ out.length + 1 := by
  unfold refOut
  split
  · simp
  · omega
theorem any_mem (l : List ByteArray) (a : ByteArray) : l.any (fun x => x.toList = a.toList) = decide (a ∈ l) := by
  rw [Bool.eq_iff_iff, List.any_eq_true, decide_eq_true_iff]
  constructor
  · rintro ⟨x, hx, he⟩
    rw [← bytes_eq (of_decide_eq_true he)]
    exact hx
  · intro hx
    exact ⟨_, hx, decide_eq_true rfl⟩
theorem empty_row (W : World) (base : Nat) (hb : base ≤ W.heap.size) : Kd.R Kd.string 9 (W.alloc (.cells #[] 9)) base (fun _ => True) (.slice (some ⟨W.heap.size, 0, none⟩) 0 0) [] :=
  ⟨fun _ _ => trivial, _, by have := World.ownsRow_lit (base := base) (e := 9) (size := 1) W #[] 0 hb (by simp [maxLen]) rfl; exact this, Kd.reps_scalar []⟩
def ostiaryref22_Group.f (l0 : List (S39)) : Option ((List (S32))) := if l0.length ≤ 1099511627776 ∧ (∀ r ∈ l0, okRecG r) then some (groupTo l0 l0.length) else none

set_option maxHeartbeats 4000000 in
set_option maxRecDepth 100000 in
theorem ostiaryref22_Group.calls (A0 : Option Addr) (c0 : Nat) (l0 : List (S39)) (r : List (S32)) (w : World) (hr0 : Kd.C k39 w A0 l0.length l0) (hc0 : l0.length ≤ c0) (h : ostiaryref22_Group.f l0 = some r) :
    Calls Try.prog 18 #[.slice A0 l0.length c0] w fun e w' => ∃ v0_ : Value, e = .returned (v0_) ∧ Kd.S k32 32 w' w.heap.size (fun _ => True) v0_ r ∧ Below w.heap.size w w' := by
  unfold ostiaryref22_Group.f at h
  split at h
  case isFalse => cases h
  rename_i hs
  obtain ⟨hlen, hok⟩ := hs
  obtain rfl := Option.some.inj h
  clear h
  have HR := Aside0.mk hr0
  have HOK := Aside0.mk hok
  have HNM := Aside0.mk (groupTo_names l0 (fun r hr => (hok r hr).1))
  clear hr0 hok
  go_enter Try.func18, Try.ntmps18
  go_wp2
  go_loopw [3, 4] (fun v i wr => ∃ k : Nat, i = .int .i64 k ∧ k ≤ l0.length ∧ Hid (Kd.S k32 32 wr w.heap.size (fun _ => True) v (groupTo l0 k)) ∧ Below w.heap.size w wr) (fun _ i _ => l0.length - (intOf i).toNat)
  case atStart => exact ⟨0, rfl, Nat.zero_le _, Lib.hid (Kd.S_nil _ _ _ _ _), Below.refl _ _⟩
  case round =>
    obtain ⟨k, rfl, hk, HO, HB⟩ := hrel
    by_cases hlt : k < l0.length
    · have hx := at_T39 HR.out (k : Int) (by omega) (by omega)
      obtain ⟨ad, rfl, x0, x1, x2, x3, x4⟩ := hx
      replace x0 := (HB.cell (World.block_lt_of_cell? w _ x0)).trans x0
      replace x1 := (HB.cell (World.block_lt_of_cell? w _ x1)).trans x1
      replace x2 := (HB.cell (World.block_lt_of_cell? w _ x2)).trans x2
      replace x3 := (HB.cell (World.block_lt_of_cell? w _ x3)).trans x3
      replace x4 := (HB.cell (World.block_lt_of_cell? w _ x4)).trans x4
      rw [Int.toNat_natCast] at x0 x1 x2 x3 x4
      generalize hxr : rd_T39 l0 (k : Int) = r at x0 x1 x2 x3 x4
      have hrok : Hid (okRecG r) := Lib.hid (HOK.out r (by rw [← hxr]; unfold rd_T39; rw [Int.toNat_natCast, List.getD_eq_getElem?_getD, List.getElem?_eq_getElem hlt]; exact List.getElem_mem _))
      have HST : Hid (groupTo l0 (k + 1) = (refOut (groupTo l0 k) r).set (refIx (groupTo l0 k) r) (addTo ((refOut (groupTo l0 k) r).getD (refIx (groupTo l0 k) r) z32) r)) := Lib.hid (by rw [groupTo_succ l0 k hlt, hxr]; exact refStep_is _ _ hrok.out.1 (HNM.out k))
      clear hxr
      go_upto_region 6 with fail
      have hO1 := Lib.hid (Kd.S_alloc HO.out (.cells #[.string r.f0, .int .i64 r.f1, .int .i64 r.f2, .int .i64 r.f3, .string r.f4] 39))
      have hB1 := below_alloc HB (.cells #[.string r.f0, .int .i64 r.f1, .int .i64 r.f2, .int .i64 r.f3, .string r.f4] 39)
      have hX1 := World.alloc_heap_new wr (.cells #[.string r.f0, .int .i64 r.f1, .int .i64 r.f2, .int .i64 r.f3, .string r.f4] 39)
      have hwX := HB.size
      clear HO HB x0 x1 x2 x3 x4
      generalize wr.heap.size = X at *
      generalize wr.alloc (.cells #[.string r.f0, .int .i64 r.f1, .int .i64 r.f2, .int .i64 r.f3, .string r.f4] 39) = W1 at *
      have hn := groupTo_length l0 k
      have hgn := Lib.hid (HNM.out k)
      have hgd := Lib.hid (groupTo_data l0 k)
      generalize groupTo l0 k = out at *
      obtain ⟨Av, cv, rfl⟩ := Kd.S_slice hO1.out
      have HC := Aside0.mk (Kd.S_reads' hO1.out).2.2
      go_wp2
      go_loopw [6, 7] (fun a q wr2 => ∃ j : Nat, q = .int .i64 j ∧ j ≤ out.length ∧ a = .int .i64 (refAt out r j) ∧ Below W1.heap.size W1 wr2) (fun _ q _ => out.length - (intOf q).toNat)
      case atStart => exact ⟨0, rfl, Nat.zero_le _, rfl, Below.refl _ _⟩
      case round =>
        obtain ⟨j, rfl, hj, rfl, hBq⟩ := hrel
        by_cases hjl : j < out.length
        · have hE := at_T32 HC.out (j : Int) (by omega) (by omega)
          obtain ⟨ad, A4, c4, rfl, y0, y1, y2, y3, y4, hc4, hC4⟩ := hE
          rw [Int.toNat_natCast] at y0 y1 y2 y3 y4
          have hsj : rd_T32 out (j : Int) = out.getD j z32 := rfl
          have hgj := Lib.hid (hgn.out _ (getD_mem32 hjl))
          have HRA := Lib.hid (show refAt out r (j + 1) = if togR (out.getD j z32) r = true then (j : Int) else refAt out r j from rfl)
          have HT : ∀ b, togR (out.getD j z32) r = b → ostiaryref22_Together.f 4398046511110 (out.getD j z32).f0 (out.getD j z32).f1 (out.getD j z32).f2 (out.getD j z32).f3 (out.getD j z32).f4 r.f0 r.f1 r.f2 r.f3 r.f4 = some b := fun b hb => by rw [← hb]; exact together_tells _ _ _ _ _ _ _ _ _ _ _ hgj.out hrok.out.1 (by have := hgj.out; omega) (by have := hrok.out.1; omega)
          rw [hsj] at y0 y1 y2 y3 y4 hc4 hC4
          clear hsj
          generalize hS : out.getD j z32 = s at y0 y1 y2 y3 y4 hc4 hC4 HT HRA
          clear hS hgj
          have HCS := Aside0.mk hC4
          have keep : Aside0 (∀ W : World, Below wr.heap.size wr W → Below wr.heap.size wr W ∧ W.cell? (ad.add (j * 5)) = some (.string s.f0) ∧ W.cell? ⟨(ad.add (j * 5)).block, (ad.add (j * 5)).off + 1, none⟩ = some (.int .i64 s.f1) ∧ W.cell? ⟨(ad.add (j * 5)).block, (ad.add (j * 5)).off + 2, none⟩ = some (.int .i64 s.f2) ∧ W.cell? ⟨(ad.add (j * 5)).block, (ad.add (j * 5)).off + 3, none⟩ = some (.int .i64 s.f3) ∧ W.cell? ⟨(ad.add (j * 5)).block, (ad.add (j * 5)).off + 4, none⟩ = some (.slice A4 s.f4.length c4) ∧
              W.cell? ⟨X, 0, none⟩ = some (.string r.f0) ∧ W.cell? ⟨X, 1, none⟩ = some (.int .i64 r.f1) ∧ W.cell? ⟨X, 2, none⟩ = some (.int .i64 r.f2) ∧ W.cell? ⟨X, 3, none⟩ = some (.int .i64 r.f3) ∧ W.cell? ⟨X, 4, none⟩ = some (.string r.f4)) := ⟨fun W hb => by
            have hb1 := below_then hBq hBq.size hb
            have hXW := (hb1.block X (blk_lt hX1)).trans hX1
            exact ⟨hb, (hb1.cell (World.block_lt_of_cell? W1 _ y0)).trans y0, (hb1.cell (World.block_lt_of_cell? W1 _ y1)).trans y1, (hb1.cell (World.block_lt_of_cell? W1 _ y2)).trans y2, (hb1.cell (World.block_lt_of_cell? W1 _ y3)).trans y3, (hb1.cell (World.block_lt_of_cell? W1 _ y4)).trans y4, (blk_cell hXW 0).trans rfl, (blk_cell hXW 1).trans rfl, (blk_cell hXW 2).trans rfl, (blk_cell hXW 3).trans rfl, (blk_cell hXW 4).trans rfl⟩⟩
          have Z := Below.refl wr.heap.size wr
          have hBQ := Aside0.mk hBq
          obtain ⟨_, z0, z1, z2, z3, z4, q0, q1, q2, q3, q4⟩ := keep.out wr Z
          clear y0 y1 y2 y3 y4 hC4 hBq
          cases hb : togR s r
          all_goals
            have HTB := Aside0.mk (HT _ hb)
            have HRB := Lib.hid hb
            clear hb HT
            go_upto_region 10 with fail
            go_region_held3 (fun W => Below wr.heap.size wr W ∧ W.cell? (ad.add (j * 5)) = some (.string s.f0) ∧ W.cell? ⟨(ad.add (j * 5)).block, (ad.add (j * 5)).off + 1, none⟩ = some (.int .i64 s.f1) ∧ W.cell? ⟨(ad.add (j * 5)).block, (ad.add (j * 5)).off + 2, none⟩ = some (.int .i64 s.f2) ∧ W.cell? ⟨(ad.add (j * 5)).block, (ad.add (j * 5)).off + 3, none⟩ = some (.int .i64 s.f3) ∧ W.cell? ⟨(ad.add (j * 5)).block, (ad.add (j * 5)).off + 4, none⟩ = some (.slice A4 s.f4.length c4) ∧
              W.cell? ⟨X, 0, none⟩ = some (.string r.f0) ∧ W.cell? ⟨X, 1, none⟩ = some (.int .i64 r.f1) ∧ W.cell? ⟨X, 2, none⟩ = some (.int .i64 r.f2) ∧ W.cell? ⟨X, 3, none⟩ = some (.int .i64 r.f3) ∧ W.cell? ⟨X, 4, none⟩ = some (.string r.f4))
              ((refine keep.out _ ?_; repeat (first | assumption | (with_reducible first | apply below_alloc | apply pw_below_drewN | apply below_drew1)))) (first | (go_at_call 66; (with_reducible refine (ostiaryref22_Together.calls 4398046511110 s.f0 s.f1 s.f2 s.f3 A4 c4 s.f4 r.f0 r.f1 r.f2 r.f3 r.f4 _ _ ?side1 hc4 HTB.out).mono ?_); (case side1 => exact Kd.C_below HCS.out (below_then hBQ.out hBQ.out.size (by repeat (first | assumption | (with_reducible first | apply below_alloc | apply pw_below_drewN | apply below_drew1))))); rintro e w' ⟨rfl, hb⟩; have Z2 := below_step (by repeat (first | assumption | (with_reducible first | apply below_alloc | apply pw_below_drewN | apply below_drew1))) hb))
            go_wp2
            go_roundw
            case rel => exact ⟨j + 1, by go_num, by omega, by rw [HRA.out, HRB.out]; rfl, below_then hBQ.out hBQ.out.size (by repeat (first | assumption | (with_reducible first | apply below_alloc | apply pw_below_drewN | apply below_drew1)))⟩
            case measure => simp [intOf]; omega
        · obtain rfl : j = out.length := by omega
          have hO2 := Lib.hid (Kd.S_below hO1.out hBq)
          have hB2 := below_then hB1 hB1.size hBq
          have hX2 := (hBq.block X (blk_lt hX1)).trans hX1
          have hrg := Lib.hid (refAt_range out r out.length)
          have e0 := (blk_cell hX2 0).trans rfl
          have e1 := (blk_cell hX2 1).trans rfl
          have e2 := (blk_cell hX2 2).trans rfl
          have e3 := (blk_cell hX2 3).trans rfl
          clear hO1 hB1 hX1 HC hBq
          go_upto_if 32 with (fail)
          go_cut [3, 6] (fun v3 v6 W => ∃ (out2 : List S32) (j : Nat), v6 = .int .i64 j ∧ j = refIx out r ∧ out2 = refOut out r ∧ Hid (Kd.S k32 32 W w.heap.size (fun _ => True) v3 out2) ∧ W.heap[X]? = some (.cells #[.string r.f0, .int .i64 r.f1, .int .i64 r.f2, .int .i64 r.f3, .string r.f4] 39 (0, 0)) ∧ Below w.heap.size w W)
          case first =>
            by_cases hneg : refAt out r out.length < 0
            · have HN := Lib.hid hneg
              have hneg0 : decide (refAt out r out.length < 0) = true := decide_eq_true hneg
              clear hneg
              rw [hneg0]
              clear hneg0
              go_wp2_with (first | (at_builtin; refine Kd.S_append k32 (w0 := w) w.heap.size rfl (.tmp 33) (.tmp 43) 25 32 (.agg #[.string ⟨#[]⟩, .int .i64 0, .int .i64 0, .int .i64 0, .slice none 0 0]) 64 rfl Try.underlying25 infoG32 rfl (by decide) (by omega) (.slice Av out.length cv) out (refNew r) [.string r.f0, .int .i64 r.f1, .int .i64 r.f2, .int .i64 r.f3, .slice none 0 0] (fun _ => True) (fun _ => False) rfl rfl ?aP ?aK ?aF ?aO ?aB ?aS ?aL ?_; (case aP => exact k32_mkM _ _ _ (refNew r) (Kd.R_nil _ _ _ _ _)); (case aK => exact fun k hk => hk.elim); (case aF => exact fun _ _ => trivial); (case aO => exact Kd.S_mono hO2.out (fun _ h => ⟨h, fun h => h⟩)); (case aB => exact hB2); (case aS => exact hB2.size); (case aL => omega); intro v4 W4 hO4 hB4 hg4 hat4; have hX4 := blk_grown hX2 hg4 (fun e => by obtain ⟨cells, hc⟩ := Kd.S_typed hO2.out _ e.symm; rw [hX2] at hc; cases hc); obtain ⟨A4, c4, rfl⟩ := Kd.S_slice hO4; rw [List.length_append, List.length_singleton] at hO4; have HO4 := Lib.hid hO4; clear hO4 hat4 hg4 e0 e1 e2 e3 hX2 hB2 hO2))
              go_meet
              exact ⟨refOut out r, refIx out r, by unfold refIx; rw [if_pos HN.out], rfl, rfl, by unfold refOut; rw [if_pos HN.out]; exact HO4, hX4, hB4⟩
            · have HN := Lib.hid (Int.not_lt.1 hneg)
              have hneg0 : decide (refAt out r out.length < 0) = false := decide_eq_false hneg
              clear hneg
              rw [hneg0]
              clear hneg0
              go_wp2
              go_meet
              exact ⟨refOut out r, refIx out r, by unfold refIx; rw [if_neg (Int.not_lt.2 HN.out), Int.toNat_of_nonneg HN.out], rfl, rfl, by unfold refOut; rw [if_neg (Int.not_lt.2 HN.out)]; exact hO2, hX2, hB2⟩
          case rest =>
            obtain ⟨out2, j, rfl, hj2, ho2, HO3, hX3, hB3⟩ := hcut
            have hjl : j < out2.length := by rw [hj2, ho2]; exact refIx_lt out r
            have hnl : out2.length ≤ k + 1 := by rw [ho2]; have := refOut_length out r; omega
            have hsl0 : ∀ q, (out2.getD q z32).f4.length ≤ l0.length := by rw [ho2]; exact refOut_data out r _ hgd.out
            have HSL := Lib.hid hsl0
            have HST2 : Hid (groupTo l0 (k + 1) = out2.set j (addTo (out2.getD j z32) r)) := Lib.hid (by rw [ho2, hj2]; exact HST.out)
            clear hj2 ho2 HST hgd hgn hsl0 hrg
            have hj0 : (0 : Int) ≤ (j : Int) := Int.natCast_nonneg _
            have hj1 : (j : Int) < (out2.length : Int) := by omega
            obtain ⟨g, cap, rfl, hgb, hgl, cells, hgc⟩ := Kd.S_form HO3.out (by omega)
            obtain ⟨oki, cs, hcl, hKM, hcc, hfr, hoki, hH⟩ := Kd.S_elem HO3.out z32 (j : Int) hj0 hj1
            obtain ⟨v4, rfl, hR4⟩ := k32_openM hKM
            obtain ⟨A4, c4, rfl⟩ := Kd.R_slice hR4
            rw [Int.toNat_natCast] at hKM hR4 hcc
            rw [Int.toNat_natCast] at hcl
            rw [Int.toNat_natCast] at hH
            have hsl := HSL.out j
            generalize hs : out2.getD j z32 = s at hKM hR4 hcc hcl hH HST2 hsl
            clear hs HSL
            have d3 : wc.cell? ⟨g, j * 5 + 3, none⟩ = some (.int .i64 s.f3) := hcc 3 _ rfl
            have f3 : wc.frozen? ⟨g, j * 5 + 3, none⟩ = false := hfr 3
            have hgX : g ≠ X := fun e => by
              subst e
              rw [hX3] at hgc
              cases hgc
            have z3 : wc.cell? ⟨X, 3, none⟩ = some (.int .i64 r.f3) := (blk_cell hX3 3).trans rfl
            go_upto_region 15 with fail
            go_cut [] (fun W4 => ∃ m, W4 = (wc.drewN m).setCell ⟨g, j * 5 + 3, none⟩ (.int .i64 (mn s.f3 r.f3)))
            case first =>
              go_region
              all_goals go_wp2_with fail
              all_goals
                go_meet
                refine ⟨1, ?_⟩
                unfold mn
                split <;> first | rfl | omega
            case rest =>
              obtain ⟨m4, rfl⟩ := hcut
              obtain ⟨hH4, hg4⟩ := H_cell (Kd.H_drewN hH m4) hj0 hj1 3 (by decide) rfl (.int .i64 (mn s.f3 r.f3)) rfl
              have qc := H_cells hH4 hj0 hj1
              have d4 := qc 4 _ rfl
              have fr4 : ∀ q, ((wc.drewN m4).setCell ⟨g, j * 5 + 3, none⟩ (.int .i64 (mn s.f3 r.f3))).frozen? ⟨g, j * 5 + q, none⟩ = false := fun q => by rw [World.frozen?_setCell]; exact hfr q
              have hg4 : wc.grownBy ((wc.drewN m4).setCell ⟨g, j * 5 + 3, none⟩ (.int .i64 (mn s.f3 r.f3))) (some g) := (grown_drewN0 wc m4 _).trans hg4
              have hX4 := blk_grown hX3 hg4 (fun e => hgX (Option.some.inj e).symm)
              have hB4 := hB3.grown hg4 hB3.size (fun k e => by have := Option.some.inj e; omega)
              have hR4' := Kd.R_grown hR4 hg4 (fun k hk e => (hoki k hk).2 (Option.some.inj e))
              have HH4 := Lib.hid hH4
              clear hH hH4 hg4 hR4 hX3 hB3 HO3 qc hcc hfr d3 f3 z3 hgc hgl hKM
              generalize (wc.drewN m4).setCell ⟨g, j * 5 + 3, none⟩ (.int .i64 (mn s.f3 r.f3)) = W4 at *
              have z4 : W4.cell? ⟨X, 4, none⟩ = some (.string r.f4) := (blk_cell hX4 4).trans rfl
              have HC4 := Lib.hid (Kd.R_reads' hR4').2.2
              have hc4 := (Kd.R_reads' hR4').2.1
              have HR4 := Lib.hid hR4'
              clear hR4'
              have hkc : ostiaryref22_Has.f (s.f4.length + 1) s.f4 r.f4 = some (s.f4.any (fun x => x.toList = r.f4.toList)) := by rw [any_mem]; exact has_tells _ _ _ (by omega) (by omega)
              have HS4 := Lib.hid hsl
              have FR4 := Lib.hid fr4
              have f4 := fr4 4
              clear hsl fr4
              cases hany : s.f4.any (fun x => x.toList = r.f4.toList) with
              | true =>
                rw [hany] at hkc
                have HKC := Lib.hid hkc
                have hadd : addTo s r = ⟨s.f0, s.f1, s.f2, mn s.f3 r.f3, s.f4⟩ := by unfold addTo; rw [if_pos hany]
                have HADD := Lib.hid hadd
                clear hany hkc hadd
                go_upto_region 16 with fail
                go_quiet (first | (go_at_call 67; (with_reducible refine (ostiaryref22_Has.calls (s.f4.length + 1) A4 c4 s.f4 r.f4 true _ ?side1 hc4 HKC.out).mono ?_); (case side1 => exact Kd.C_drewN HC4.out _); rintro e w' ⟨rfl, ⟨nd, rfl⟩⟩; exact ⟨rfl, _, World.drewN_drewN _ _ _⟩))
                go_wp2_with fail
                go_roundw
                case rel => exact ⟨k + 1, by go_num, by omega, Lib.hid (by rw [HST2.out, HADD.out]; exact Kd.S_drewN (Kd.H_back HH4.out (k32_mkM _ _ _ (⟨s.f0, s.f1, s.f2, mn s.f3 r.f3, s.f4⟩ : S32) HR4.out) (fun _ hk => hk)) _), pw_below_drewN hB4 _⟩
                case measure => simp [intOf]; omega
              | false =>
                rw [hany] at hkc
                have HKC := Lib.hid hkc
                have hadd : addTo s r = ⟨s.f0, s.f1, s.f2, mn s.f3 r.f3, s.f4 ++ [r.f4]⟩ := by unfold addTo; rw [if_neg (by rw [hany]; decide)]
                have HADD := Lib.hid hadd
                clear hany hkc hadd
                go_upto_region 16 with fail
                go_quiet (first | (go_at_call 67; (with_reducible refine (ostiaryref22_Has.calls (s.f4.length + 1) A4 c4 s.f4 r.f4 false _ ?side1 hc4 HKC.out).mono ?_); (case side1 => exact Kd.C_drewN HC4.out _); rintro e w' ⟨rfl, ⟨nd, rfl⟩⟩; exact ⟨rfl, _, World.drewN_drewN _ _ _⟩))
                have hX5 : (W4.drewN nq).heap[X]? = _ := hX4
                have hB5 := pw_below_drewN hB4 nq
                have HR5 := Lib.hid (Kd.R_drewN HR4.out nq)
                have HH5 := Lib.hid (Kd.H_drewN HH4.out nq)
                have d5 : (W4.drewN nq).cell? ⟨g, j * 5 + 4, none⟩ = _ := d4
                have z5 : (W4.drewN nq).cell? ⟨X, 4, none⟩ = _ := z4
                have fr5 : ∀ q, (W4.drewN nq).frozen? ⟨g, j * 5 + q, none⟩ = false := fun q => FR4.out q
                have hl5 : g < (W4.drewN nq).heap.size := World.block_lt_of_cell? _ _ d5
                clear hX4 hB4 HR4 HH4 d4 z4 f4 FR4 HC4
                generalize W4.drewN nq = W5 at *
                go_upto_region 17 with fail
                have FR5 := Lib.hid fr5
                have HC5 := Aside0.mk (Kd.R_reads' HR5.out).2.2
                have HE1 := Aside0.mk (empty_row W5 W5.heap.size (Nat.le_refl _))
                have HE2 : Aside0 (Kd.R Kd.string 9 ((W5.alloc (.cells #[.string r.f4] 9)).alloc (.cells #[] 9)) W5.heap.size (fun _ => True) (.slice (some ⟨W5.heap.size + 1, 0, none⟩) 0 0) []) := ⟨by have := empty_row (W5.alloc (.cells #[.string r.f4] 9)) W5.heap.size (by simp); rwa [World.size_alloc] at this⟩
                have HD1 : Aside0 (Kd.R Kd.string 9 ((W5.alloc (.cells #[] 9)).alloc (.cells #[.string r.f4] 9)) W5.heap.size (fun k => k = W5.heap.size + 1) (.slice (some ⟨W5.heap.size + 1, 0, none⟩) 1 1) [r.f4]) := ⟨by have := one_text (W5.alloc (.cells #[] 9)) W5.heap.size r.f4 (by simp); rwa [World.size_alloc] at this⟩
                have HD2 : Aside0 (Kd.R Kd.string 9 ((W5.alloc (.cells #[.string r.f4] 9)).alloc (.cells #[] 9)) W5.heap.size (fun k => k = W5.heap.size) (.slice (some ⟨W5.heap.size, 0, none⟩) 1 1) [r.f4]) := ⟨Kd.R_alloc (one_text W5 W5.heap.size r.f4 (Nat.le_refl _)) _⟩
                have b1 := (World.cell?_alloc_lt W5 (.cells #[] 9) ⟨g, j * 5 + 4, none⟩ hl5).trans d5
                have b2 := (World.cell?_alloc_lt W5 (.cells #[.string r.f4] 9) ⟨g, j * 5 + 4, none⟩ hl5).trans d5
                have hXl : X < W5.heap.size := blk_lt hX5
                have b5 := (World.cell?_alloc_lt W5 (.cells #[] 9) ⟨X, 4, none⟩ hXl).trans z5
                have b3 := (World.cell?_alloc_lt (W5.alloc (.cells #[] 9)) (.cells #[.string r.f4] 9) ⟨g, j * 5 + 4, none⟩ (by simp; omega)).trans b1
                have b4 := (World.cell?_alloc_lt (W5.alloc (.cells #[.string r.f4] 9)) (.cells #[] 9) ⟨g, j * 5 + 4, none⟩ (by simp; omega)).trans b2
                clear fr5
                go_region_law (first | (refine Kd.R_append_rows_step Kd.string (w0 := W5) W5.heap.size (by rfl) (.tmp 71) (.tmp 76) 30 9 (.string ⟨#[]⟩) 16 rfl Try.underlying30 (by kernel_rfl) rfl (by decide) (by decide) (.slice (some ⟨W5.heap.size, 0, none⟩) 0 0) [] s.f4 A4 s.f4.length c4 (fun _ => True) (fun _ => False) rfl rfl ?aO ?aR (fun _ _ h => h) (fun _ h => h.elim) (fun _ _ => trivial) ?aB ?aS ?aL ?_; (case aB => repeat (first | exact Below.refl _ _ | (with_reducible first | apply below_alloc | apply pw_below_drewN | apply below_drew1))); (case aS => exact below_size (by repeat (first | exact Below.refl _ _ | (with_reducible first | apply below_alloc | apply pw_below_drewN | apply below_drew1)))); (case aO => first | exact Kd.R_drew (HE1.out) | exact (HE1.out)); (case aR => exact Kd.C_below HC5.out (by repeat (first | exact Below.refl _ _ | (with_reducible first | apply below_alloc | apply pw_below_drewN | apply below_drew1)))); (case aL => have := HS4.out; simp only [List.length_nil, Nat.zero_add]; omega); intro v1 w1 hR1 hB1 hg1 _; obtain ⟨A1, c1, rfl⟩ := Kd.R_slice hR1; rw [List.nil_append] at hR1; have d7 := pw_cell_below hB1 d5; have z7 := pw_cell_below hB1 z5; have f7 := (hB1.frozen (p := ⟨g, j * 5 + 4, none⟩) hl5).trans (FR5.out 4); have hl7 := Nat.lt_of_lt_of_le hl5 hB1.size; have HR7 := Lib.hid hR1; have HB7 := Lib.hid hB1;  clear hR1 hB1 hg1) | (refine Kd.R_append_rows_step Kd.string (w0 := W5) W5.heap.size (by rfl) (.tmp 71) (.tmp 76) 30 9 (.string ⟨#[]⟩) 16 rfl Try.underlying30 (by kernel_rfl) rfl (by decide) (by decide) (.slice (some ⟨W5.heap.size, 0, none⟩) 0 0) [] s.f4 A4 s.f4.length c4 (fun _ => True) (fun _ => False) rfl rfl ?aO ?aR (fun _ _ h => h) (fun _ h => h.elim) (fun _ _ => trivial) ?aB ?aS ?aL ?_; (case aB => repeat (first | exact Below.refl _ _ | (with_reducible first | apply below_alloc | apply pw_below_drewN | apply below_drew1))); (case aS => exact below_size (by repeat (first | exact Below.refl _ _ | (with_reducible first | apply below_alloc | apply pw_below_drewN | apply below_drew1)))); (case aO => first | exact Kd.R_drew (Kd.R_alloc HE1.out _) | exact (Kd.R_alloc HE1.out _)); (case aR => exact Kd.C_below HC5.out (by repeat (first | exact Below.refl _ _ | (with_reducible first | apply below_alloc | apply pw_below_drewN | apply below_drew1)))); (case aL => have := HS4.out; simp only [List.length_nil, Nat.zero_add]; omega); intro v1 w1 hR1 hB1 hg1 _; obtain ⟨A1, c1, rfl⟩ := Kd.R_slice hR1; rw [List.nil_append] at hR1; have d7 := pw_cell_below hB1 d5; have z7 := pw_cell_below hB1 z5; have f7 := (hB1.frozen (p := ⟨g, j * 5 + 4, none⟩) hl5).trans (FR5.out 4); have hl7 := Nat.lt_of_lt_of_le hl5 hB1.size; have HR7 := Lib.hid hR1; have HB7 := Lib.hid hB1; have HD7 : Hid (Kd.R Kd.string 9 w1 W5.heap.size (fun k => k = W5.heap.size + 1) (.slice (some ⟨W5.heap.size + 1, 0, none⟩) 1 1) [r.f4]) := Lib.hid (by first | exact Kd.R_grown (Kd.R_drew HD1.out) hg1 (fun k hk e => by have h1 : k = W5.heap.size + 1 := hk; have h2 : some k = some (W5.heap.size) := e; injection h2 with h2; omega) | exact Kd.R_grown HD1.out hg1 (fun k hk e => by have h1 : k = W5.heap.size + 1 := hk; have h2 : some k = some (W5.heap.size) := e; injection h2 with h2; omega)); clear hR1 hB1 hg1) | (refine Kd.R_append_rows_step Kd.string (w0 := W5) W5.heap.size (by rfl) (.tmp 71) (.tmp 76) 30 9 (.string ⟨#[]⟩) 16 rfl Try.underlying30 (by kernel_rfl) rfl (by decide) (by decide) (.slice (some ⟨W5.heap.size + 1, 0, none⟩) 0 0) [] s.f4 A4 s.f4.length c4 (fun _ => True) (fun _ => False) rfl rfl ?aO ?aR (fun _ _ h => h) (fun _ h => h.elim) (fun _ _ => trivial) ?aB ?aS ?aL ?_; (case aB => repeat (first | exact Below.refl _ _ | (with_reducible first | apply below_alloc | apply pw_below_drewN | apply below_drew1))); (case aS => exact below_size (by repeat (first | exact Below.refl _ _ | (with_reducible first | apply below_alloc | apply pw_below_drewN | apply below_drew1)))); (case aO => first | exact Kd.R_drew (HE2.out) | exact (HE2.out)); (case aR => exact Kd.C_below HC5.out (by repeat (first | exact Below.refl _ _ | (with_reducible first | apply below_alloc | apply pw_below_drewN | apply below_drew1)))); (case aL => have := HS4.out; simp only [List.length_nil, Nat.zero_add]; omega); intro v1 w1 hR1 hB1 hg1 _; obtain ⟨A1, c1, rfl⟩ := Kd.R_slice hR1; rw [List.nil_append] at hR1; have d7 := pw_cell_below hB1 d5; have z7 := pw_cell_below hB1 z5; have f7 := (hB1.frozen (p := ⟨g, j * 5 + 4, none⟩) hl5).trans (FR5.out 4); have hl7 := Nat.lt_of_lt_of_le hl5 hB1.size; have HR7 := Lib.hid hR1; have HB7 := Lib.hid hB1; have HD7 : Hid (Kd.R Kd.string 9 w1 W5.heap.size (fun k => k = W5.heap.size) (.slice (some ⟨W5.heap.size, 0, none⟩) 1 1) [r.f4]) := Lib.hid (by first | exact Kd.R_grown (Kd.R_drew HD2.out) hg1 (fun k hk e => by have h1 : k = W5.heap.size := hk; have h2 : some k = some (W5.heap.size + 1) := e; injection h2 with h2; omega) | exact Kd.R_grown HD2.out hg1 (fun k hk e => by have h1 : k = W5.heap.size := hk; have h2 : some k = some (W5.heap.size + 1) := e; injection h2 with h2; omega)); clear hR1 hB1 hg1) | (refine Kd.R_append_rows_step Kd.string (w0 := W5) W5.heap.size (by rfl) (.tmp 77) (.tmp 80) 30 9 (.string ⟨#[]⟩) 16 rfl Try.underlying30 (by kernel_rfl) rfl (by decide) (by decide) (.slice A1 s.f4.length c1) s.f4 [r.f4] (some ⟨w1.heap.size, 0, none⟩) 1 1 (fun _ => True) (fun _ => False) rfl rfl ?aO ?aR (fun _ _ h => h) (fun _ h => h.elim) (fun _ _ => trivial) ?aB ?aS ?aL ?_; (case aB => repeat (first | exact HB7.out | (with_reducible first | apply below_alloc | apply pw_below_drewN | apply below_drew1))); (case aS => exact below_size (by repeat (first | exact HB7.out | (with_reducible first | apply below_alloc | apply pw_below_drewN | apply below_drew1)))); (case aO => exact Kd.R_alloc HR7.out _); (case aR => exact (Kd.R_reads' (one_text w1 0 r.f4 (Nat.zero_le _))).2.2); (case aL => have := HS4.out; omega); intro v2 w2 hR2 hB2 _ _; obtain ⟨A2, c2, rfl⟩ := Kd.R_slice hR2; have d8 := pw_cell_below hB2 d5; have f8 := (hB2.frozen (p := ⟨g, j * 5 + 4, none⟩) hl5).trans (FR5.out 4); have HR8 := Lib.hid hR2; have HB8 := Lib.hid hB2; clear hR2 hB2) | (refine Kd.R_append_rows_step Kd.string (w0 := W5) W5.heap.size (by rfl) (.tmp 77) (.tmp 80) 30 9 (.string ⟨#[]⟩) 16 rfl Try.underlying30 (by kernel_rfl) rfl (by decide) (by decide) (.slice A1 s.f4.length c1) s.f4 [r.f4] (some ⟨W5.heap.size + 1, 0, none⟩) 1 1 (fun _ => True) (fun _ => False) rfl rfl ?aO ?aR (fun _ _ h => h) (fun _ h => h.elim) (fun _ _ => trivial) ?aB ?aS ?aL ?_; (case aB => repeat (first | exact HB7.out | (with_reducible first | apply below_alloc | apply pw_below_drewN | apply below_drew1))); (case aS => exact below_size (by repeat (first | exact HB7.out | (with_reducible first | apply below_alloc | apply pw_below_drewN | apply below_drew1)))); (case aO => exact HR7.out); (case aR => exact (Kd.R_reads' HD7.out).2.2); (case aL => have := HS4.out; omega); intro v2 w2 hR2 hB2 _ _; obtain ⟨A2, c2, rfl⟩ := Kd.R_slice hR2; have d8 := pw_cell_below hB2 d5; have f8 := (hB2.frozen (p := ⟨g, j * 5 + 4, none⟩) hl5).trans (FR5.out 4); have HR8 := Lib.hid hR2; have HB8 := Lib.hid hB2; clear hR2 hB2) | (refine Kd.R_append_rows_step Kd.string (w0 := W5) W5.heap.size (by rfl) (.tmp 77) (.tmp 80) 30 9 (.string ⟨#[]⟩) 16 rfl Try.underlying30 (by kernel_rfl) rfl (by decide) (by decide) (.slice A1 s.f4.length c1) s.f4 [r.f4] (some ⟨W5.heap.size, 0, none⟩) 1 1 (fun _ => True) (fun _ => False) rfl rfl ?aO ?aR (fun _ _ h => h) (fun _ h => h.elim) (fun _ _ => trivial) ?aB ?aS ?aL ?_; (case aB => repeat (first | exact HB7.out | (with_reducible first | apply below_alloc | apply pw_below_drewN | apply below_drew1))); (case aS => exact below_size (by repeat (first | exact HB7.out | (with_reducible first | apply below_alloc | apply pw_below_drewN | apply below_drew1)))); (case aO => exact HR7.out); (case aR => exact (Kd.R_reads' HD7.out).2.2); (case aL => have := HS4.out; omega); intro v2 w2 hR2 hB2 _ _; obtain ⟨A2, c2, rfl⟩ := Kd.R_slice hR2; have d8 := pw_cell_below hB2 d5; have f8 := (hB2.frozen (p := ⟨g, j * 5 + 4, none⟩) hl5).trans (FR5.out 4); have HR8 := Lib.hid hR2; have HB8 := Lib.hid hB2; clear hR2 hB2))
                all_goals
                  have hR8 := HR8.out
                  rw [List.length_append, List.length_singleton] at hR8
                  obtain ⟨hH9, hg9⟩ := H_cell (Kd.H_below (Kd.H_widen HH5.out) HB8.out) hj0 hj1 4 (by decide) rfl (.slice A2 (s.f4.length + 1) c2) rfl
                  have hR9 := Lib.hid (Kd.R_lower (Kd.R_mono (Kd.R_grown (Kd.R_bound hR8) hg9 (fun k hk e => by have h1 := hk.2.1; have h2 : k = g := Option.some.inj e; omega)) (fun k hk => (⟨trivial, hk.2.1⟩ : True ∧ W5.heap.size ≤ k))) hB5.size)
                  have hB9 := Lib.hid ((below_then hB5 hB5.size HB8.out).setCell (p := ⟨g, j * 5 + 4, none⟩) hgb (.slice A2 (s.f4.length + 1) c2))
                  have HH9 := Lib.hid hH9
                  clear hH9 hg9 hR8 HB8 HR8 d8 f8 HR7 HB7
                  go_wp2_with fail
                  go_roundw
                  case rel => exact ⟨k + 1, by go_num, by omega, Lib.hid (by rw [HST2.out, HADD.out]; exact Kd.H_back HH9.out (k32_mkM _ _ _ (⟨s.f0, s.f1, s.f2, mn s.f3 r.f3, s.f4 ++ [r.f4]⟩ : S32) hR9.out) (fun _ hk => .inr hk)), hB9.out⟩
                  case measure => simp [intOf]; omega
    · obtain rfl : k = l0.length := by omega
      obtain ⟨Av, cv, rfl⟩ := Kd.S_slice HO.out
      go_wp2
      go_ret
      exact ⟨_, rfl, HO.out, HB⟩
end Go.Proofs.Ytdkecfjeiookdaa.PA
