/- Contracts by hand: the lower-case forms of names. -/
import Derived.Lib.Hide
import Derived.Test.YtdkecfjeiookdaaGrPAx0
namespace Go.Proofs.Ytdkecfjeiookdaa.PA
open Go.RowKit Go.Proofs.YtdkecfjeiookdaaW.PrintWords Go.Proofs.YtdkecfjeiookdaaW.PrintLast Go.Proofs.YtdkecfjeiookdaaW.PrintMore
set_option linter.unusedVariables false
set_option linter.unusedSimpArgs false

/-- One byte, lower. -/
def lowB (c : UInt8) : UInt8 := if 65 ≤ c ∧ c ≤ 90 then c + 32 else c
def lowS (s : ByteArray) : ByteArray := ⟨(s.data.toList.map lowB).toArray⟩
/-- The cells behind k rounds. -/
def lowTo (s : ByteArray) (k : Nat) : List Int := ((s.data.toList.take k).map fun c => ((lowB c).toNat : Int)) ++ ((s.data.toList.drop k).map fun c => (c.toNat : Int))

theorem lowTo_zero (s : ByteArray) (j : Nat) (h : j < s.size) : (lowTo s 0).getD j 0 = ((s.data.toList.getD j 0).toNat : Int) := by
  have h' : j < s.data.toList.length := by rw [data_length]; exact h
  simp [lowTo, List.getD_eq_getElem?_getD, List.getElem?_eq_getElem h']
theorem lowTo_length (s : ByteArray) (k : Nat) : (lowTo s k).length = s.size := by
  rw [lowTo, List.length_append, List.length_map, List.length_map, ← List.length_append, List.take_append_drop, data_length]
theorem lowTo_at (s : ByteArray) (k : Nat) (h : k < s.size) : (lowTo s k).getD k 0 = ((s.data.toList.getD k 0).toNat : Int) := by
  have h' : k < s.data.toList.length := by rw [data_length]; exact h
  simp only [lowTo, List.getD_eq_getElem?_getD]
  rw [List.getElem?_append_right (by rw [List.length_map, List.length_take]; omega)]
  rw [List.length_map, List.length_take, Nat.min_eq_left (Nat.le_of_lt h'), Nat.sub_self, List.getElem?_map, List.getElem?_drop, Nat.add_zero, List.getElem?_eq_getElem h']
  rfl
theorem lowTo_succ (s : ByteArray) (k : Nat) (h : k < s.size) (j : Nat) : (lowTo s (k + 1)).getD j 0 = if j = k then ((lowB (s.data.toList.getD k 0)).toNat : Int) else (lowTo s k).getD j 0 := by
  have h' : k < s.data.toList.length := by rw [data_length]; exact h
  simp only [lowTo, List.getD_eq_getElem?_getD]
  by_cases hj : j = k
  · subst hj
    rw [if_pos rfl, List.getElem?_append_left (by simp; omega)]
    simp [List.getElem?_take, List.getElem?_eq_getElem h']
  · rw [if_neg hj]
    by_cases hl : j < k
    · rw [List.getElem?_append_left (by simp; omega), List.getElem?_append_left (by simp; omega)]
      simp [List.getElem?_take, hl, Nat.lt_succ_of_lt hl]
    · rw [List.getElem?_append_right (by simp; omega), List.getElem?_append_right (by simp; omega)]
      simp only [List.length_map, List.length_take, List.getElem?_map, List.getElem?_drop]
      rw [show min (k + 1) s.data.toList.length = k + 1 from by omega, show min k s.data.toList.length = k from by omega, show k + 1 + (j - (k + 1)) = k + (j - k) from by omega]
theorem lowTo_all (s : ByteArray) : strOfNums (lowTo s s.size) = lowS s := by
  have h1 : s.data.toList.take s.size = s.data.toList := List.take_of_length_le (by rw [data_length]; omega)
  have h2 : s.data.toList.drop s.size = [] := List.drop_of_length_le (by rw [data_length]; omega)
  simp only [lowTo, h1, h2, List.map_nil, List.append_nil, strOfNums, lowS, List.map_map]
  congr 2
  apply List.map_congr_left
  intro c _
  simp
theorem low_hi (c : UInt8) (h1 : (65 : Int) ≤ (c.toNat : Int)) (h2 : (c.toNat : Int) ≤ 90) : ((lowB c).toNat : Int) = (c.toNat : Int) + 32 := by
  unfold lowB
  rw [if_pos ⟨by rw [UInt8.le_iff_toNat_le]; simp; omega, by rw [UInt8.le_iff_toNat_le]; simp; omega⟩]
  rw [UInt8.toNat_add]
  simp
  omega
theorem low_lo (c : UInt8) (h : ¬ ((65 : Int) ≤ (c.toNat : Int) ∧ (c.toNat : Int) ≤ 90)) : ((lowB c).toNat : Int) = (c.toNat : Int) := by
  unfold lowB
  rw [if_neg]
  rintro ⟨h1, h2⟩
  rw [UInt8.le_iff_toNat_le] at h1 h2
  simp at h1 h2
  exact h ⟨by omega, by omega⟩
/-- The row behind k rounds. -/
def LowRow (W : World) (g e : Nat) (s : ByteArray) (k : Nat) : Prop := ∃ cs fr, W.heap[g]? = some (.cells cs e fr) ∧ s.size ≤ fr.1 ∧ ∀ j, j < s.size → cs[j]? = some (.int .u8 ((lowTo s k).getD j 0))
theorem LowRow.start (w : World) (e : Nat) (s : ByteArray) : LowRow (Lib.bytesWorld w e s) w.heap.size e s 0 := by
  refine ⟨_, _, Lib.bytesWorld_at_new w e s, by simp [Lib.bytesCells], fun j hj => ?_⟩
  rw [lowTo_zero s j hj]
  simp [Lib.bytesCells, Array.getElem?_append, List.getD, hj]
theorem LowRow.cell {W : World} {g e : Nat} {s : ByteArray} {k : Nat} (h : LowRow W g e s k) (j : Nat) (hj : j < s.size) : W.cell? ⟨g, j, none⟩ = some (.int .u8 ((lowTo s k).getD j 0)) := by
  obtain ⟨cs, fr, hh, _, hc⟩ := h
  simp [World.cell?, hh, hc j hj]
theorem LowRow.free {W : World} {g e : Nat} {s : ByteArray} {k : Nat} (h : LowRow W g e s k) (j : Nat) (hj : j < s.size) : W.frozen? ⟨g, j, none⟩ = false := by
  obtain ⟨cs, fr, hh, hf, hc⟩ := h
  simp [World.frozen?, hh]
  omega
theorem LowRow.stay {W : World} {g e : Nat} {s : ByteArray} {k : Nat} (h : LowRow W g e s k) (hk : k < s.size) (hx : lowB (s.data.toList.getD k 0) = s.data.toList.getD k 0) : LowRow W g e s (k + 1) := by
  obtain ⟨cs, fr, hh, hf, hc⟩ := h
  refine ⟨cs, fr, hh, hf, fun j hj => ?_⟩
  rw [hc j hj, lowTo_succ s k hk j]
  by_cases e : j = k
  · subst e
    rw [if_pos rfl, hx, lowTo_at s j hj]
  · rw [if_neg e]
theorem LowRow.set {W : World} {g e : Nat} {s : ByteArray} {k : Nat} (h : LowRow W g e s k) (hk : k < s.size) (x : Int) (hx : x = ((lowB (s.data.toList.getD k 0)).toNat : Int)) : LowRow (W.setCell ⟨g, k, none⟩ (.int .u8 x)) g e s (k + 1) := by
  obtain ⟨cs, fr, hh, hf, hc⟩ := h
  obtain ⟨hlt, hh'⟩ := Array.getElem?_eq_some_iff.1 hh
  refine ⟨cs.setIfInBounds k (.int .u8 x), fr, ?_, hf, fun j hj => ?_⟩
  · show (W.heap.modify g _)[g]? = _
    rw [Array.getElem?_eq_getElem (by rw [Array.size_modify]; exact hlt), Array.getElem_modify_self, hh']
    rfl
  · rw [lowTo_succ s k hk j]
    by_cases e : j = k
    · subst e
      rw [if_pos rfl, hx]
      have hj' : j < cs.size := (Array.getElem?_eq_some_iff.1 (hc j hj)).1
      simp [Array.getElem?_setIfInBounds, hj']
    · rw [if_neg e, Array.getElem?_setIfInBounds_ne (fun h => e h.symm)]
      exact hc j hj

def name_Lower.f (a0 : ByteArray) : Option (ByteArray) := if a0.size ≤ 140737488355328 then some (lowS a0) else none

set_option maxHeartbeats 1000000 in
set_option maxRecDepth 100000 in
theorem name_Lower.calls (a0 : ByteArray) (r : ByteArray) (w : World) (h : name_Lower.f a0 = some r) :
    Calls Try.prog 63 #[.string a0] w fun e w' => e = .returned (.string r) ∧ Below w.heap.size w w' := by
  unfold name_Lower.f at h
  split at h
  case isFalse => cases h
  rename_i hs
  obtain rfl := Option.some.inj h
  clear h
  have kb := fun W => print_bytes (P := Try.prog) 9 76 5 Try.underlying9 Try.underlying76 Try.underlying5 a0 W
  go_enter Try.func63, Try.ntmps63
  go_wp2
  go_loopw [10] (fun i wr => ∃ k : Nat, i = .int .i64 k ∧ k ≤ a0.size ∧ Below w.heap.size w wr ∧ LowRow wr w.heap.size 5 a0 k) (fun i _ => a0.size - (intOf i).toNat)
  case atStart => exact ⟨0, rfl, Nat.zero_le _, bytes_below (Below.refl _ _) (Nat.le_refl _) _ _, LowRow.start w _ a0⟩
  case round =>
    obtain ⟨k, rfl, hk, hB, hR⟩ := hrel
    by_cases hlt : k < a0.size
    · have hc := hR.cell k hlt
      have hf := hR.free k hlt
      rw [lowTo_at a0 k hlt] at hc
      have hl : k < a0.data.toList.length := by rw [data_length]; exact hlt
      have hgd : a0.data.toList.getD k 0 = a0.data[k] := by simp [List.getD_eq_getElem?_getD, List.getElem?_eq_getElem hl]
      have HG := Lib.hid hgd
      clear hgd
      have hb255 : (a0.data[k].toNat : Int) ≤ 255 := by have := a0.data[k].toNat_lt; omega
      go_wp2
      · go_roundw
        case rel => exact ⟨k + 1, by go_num, by omega, hB.setCell (p := ⟨w.heap.size, k, none⟩) (Nat.le_refl _) _, hR.set hlt _ (by rw [HG.out, low_hi _ (by assumption) (by assumption)]; omega)⟩
        case measure => simp [intOf]; omega
      · go_roundw
        case rel => exact ⟨k + 1, by go_num, by omega, hB, hR.stay hlt (UInt8.toNat_inj.1 (Int.ofNat.inj (by have := low_lo (a0.data.toList.getD k 0) (by rw [HG.out]; omega); exact this)))⟩
        case measure => simp [intOf]; omega
      · go_roundw
        case rel => exact ⟨k + 1, by go_num, by omega, hB, hR.stay hlt (UInt8.toNat_inj.1 (Int.ofNat.inj (by have := low_lo (a0.data.toList.getD k 0) (by rw [HG.out]; omega); exact this)))⟩
        case measure => simp [intOf]; omega
    · obtain rfl : k = a0.size := by omega
      have ks := run_convert_bytes_arg (P := Try.prog) wr 76 5 Try.underlying76 Try.underlying5 w.heap.size 0 a0.size (grownCap w a0.size 0 5) (lowTo a0 a0.size) (lowTo_length _ _) (fun i hi => by rw [Nat.zero_add]; exact hR.cell i hi) 9 Try.underlying9
      rw [lowTo_all] at ks
      go_wp2
      go_ret
      exact ⟨rfl, hB⟩

def ostiaryref04_Lower.f (a0 : ByteArray) : Option (ByteArray) := if a0.size ≤ 140737488355328 then some (lowS a0) else none

set_option maxHeartbeats 1000000 in
set_option maxRecDepth 100000 in
theorem ostiaryref04_Lower.calls (a0 : ByteArray) (r : ByteArray) (w : World) (h : ostiaryref04_Lower.f a0 = some r) :
    Calls Try.prog 109 #[.string a0] w fun e w' => e = .returned (.string r) ∧ Below w.heap.size w w' := by
  unfold ostiaryref04_Lower.f at h
  split at h
  case isFalse => cases h
  rename_i hs
  obtain rfl := Option.some.inj h
  clear h
  have kb := fun W => print_bytes (P := Try.prog) 9 76 5 Try.underlying9 Try.underlying76 Try.underlying5 a0 W
  go_enter Try.func109, Try.ntmps109
  go_wp2
  go_loopw [4] (fun i wr => ∃ k : Nat, i = .int .i64 k ∧ k ≤ a0.size ∧ Below w.heap.size w wr ∧ LowRow wr w.heap.size 5 a0 k) (fun i _ => a0.size - (intOf i).toNat)
  case atStart => exact ⟨0, rfl, Nat.zero_le _, bytes_below (Below.refl _ _) (Nat.le_refl _) _ _, LowRow.start w _ a0⟩
  case round =>
    obtain ⟨k, rfl, hk, hB, hR⟩ := hrel
    by_cases hlt : k < a0.size
    · have hc := hR.cell k hlt
      have hf := hR.free k hlt
      rw [lowTo_at a0 k hlt] at hc
      have hl : k < a0.data.toList.length := by rw [data_length]; exact hlt
      have hgd : a0.data.toList.getD k 0 = a0.data[k] := by simp [List.getD_eq_getElem?_getD, List.getElem?_eq_getElem hl]
      have HG := Lib.hid hgd
      clear hgd
      have hb255 : (a0.data[k].toNat : Int) ≤ 255 := by have := a0.data[k].toNat_lt; omega
      go_wp2
      · go_roundw
        case rel => exact ⟨k + 1, by go_num, by omega, hB.setCell (p := ⟨w.heap.size, k, none⟩) (Nat.le_refl _) _, hR.set hlt _ (by rw [HG.out, low_hi _ (by assumption) (by assumption)])⟩
        case measure => simp [intOf]; omega
      · go_roundw
        case rel => exact ⟨k + 1, by go_num, by omega, hB, hR.stay hlt (UInt8.toNat_inj.1 (Int.ofNat.inj (by have := low_lo (a0.data.toList.getD k 0) (by rw [HG.out]; omega); exact this)))⟩
        case measure => simp [intOf]; omega
      · go_roundw
        case rel => exact ⟨k + 1, by go_num, by omega, hB, hR.stay hlt (UInt8.toNat_inj.1 (Int.ofNat.inj (by have := low_lo (a0.data.toList.getD k 0) (by rw [HG.out]; omega); exact this)))⟩
        case measure => simp [intOf]; omega
    · obtain rfl : k = a0.size := by omega
      have ks := run_convert_bytes_arg (P := Try.prog) wr 76 5 Try.underlying76 Try.underlying5 w.heap.size 0 a0.size (grownCap w a0.size 0 5) (lowTo a0 a0.size) (lowTo_length _ _) (fun i hi => by rw [Nat.zero_add]; exact hR.cell i hi) 9 Try.underlying9
      rw [lowTo_all] at ks
      go_wp2
      go_ret
      exact ⟨rfl, hB⟩
#print axioms ostiaryref04_Lower.calls
end Go.Proofs.Ytdkecfjeiookdaa.PA
