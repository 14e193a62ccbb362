-- PRINTED by print.py (a twelfth state) out of the translation. Not trusted: Lean checks it.
import Derived.Test.YtdkecfjeiookdaaPAx0
import Derived.Test.YtdkecfjeiookdaaPAx3
import Derived.Test.YtdkecfjeiookdaaPAx5
import Derived.Test.YtdkecfjeiookdaaPAx8
import Derived.Test.YtdkecfjeiookdaaAW
import Derived.Test.YtdkecfjeiookdaaCK
import Derived.Test.YtdkecfjeiookdaaGR
import Derived.Test.YtdkecfjeiookdaaSM
namespace Go.Proofs.Ytdkecfjeiookdaa.PA
open Go.RowKit Go.Proofs.YtdkecfjeiookdaaW.PrintWords Go.Proofs.YtdkecfjeiookdaaW.PrintLast Go.Proofs.YtdkecfjeiookdaaW.PrintMore
attribute [local go_sem] Go.Instr.field Go.part Go.asAgg
attribute [local go_sem] max2_int min2_int max_two min_two max_three min_three max_four min_four   -- for this text's walks alone
set_option linter.unusedVariables false
set_option linter.unusedSimpArgs false

theorem swap_far {w : World} {g a b : Nat} {u v : Value} (h : w.cell? ⟨g, b, none⟩ = some v) (e : a ≠ b) : (w.setCell ⟨g, a, none⟩ u).cell? ⟨g, b, none⟩ = some v := by
  rw [← h]
  exact World.cell?_setCell_other w _ _ _ (fun hh => e (by injection hh))
theorem swap_cell {w : World} {g a b : Nat} {v : Value} (h : w.cell? ⟨g, b, none⟩ = some v) : (w.setCell ⟨g, a, none⟩ v).cell? ⟨g, b, none⟩ = some v := by
  by_cases e : a = b
  · subst e
    exact World.cell?_setCell_same w _ _ h
  · exact swap_far h e

/-! ### ostiarylaw22_SetsTurned: function 5 -/
mutual
def ostiarylaw22_SetsTurned.j0 : Nat → List (S39) → List Int → Bool → Bool → Option (Bool)
  | 0, _, _, _, _ => none
  | k + 1, x0, x1, x5, x23 => if x23 = true then (some x5) else (ostiarylaw22_SetsTurned.l0 k x0 x1 x5 0)
def ostiarylaw22_SetsTurned.l0 : Nat → List (S39) → List Int → Bool → Int → Option (Bool)
  | 0, _, _, _, _ => none
  | k + 1, x0, x1, x5, x6 => if x6 < (x0.length : Int) then (if 0 ≤ x6 then ((sets_Check.f ((rd_T39 x0 x6).f0) 0 0 0 (([(⟨#[]⟩ : ByteArray)] : List ByteArray))).bind fun t157 => (if t157 = 0 then (ostiarylaw22_SetsTurned.l0 k x0 x1 x5 (wrap64 (x6 + 1))) else (some x5))) else (none)) else ((some (([] : List (S39)) : List (S39))).bind fun y158 => (if y158.length + x0.length < 2513169434916 then (ostiarylaw22_SetsTurned.l1 k x0 x1 x5 (y158 ++ x0) 0) else (none)))
def ostiarylaw22_SetsTurned.j3 : Nat → List (S39) → Bool → List (S39) → Option (Bool)
  | 0, _, _, _ => none
  | k + 1, x0, x5, x7 => (sets_Group.f x0).bind fun t170 => ((sets_Group.f x7).bind fun t173 => (if (t170.length : Int) = (t173.length : Int) then (ostiarylaw22_SetsTurned.l2 k x5 t170 t173 0) else (some false)))
def ostiarylaw22_SetsTurned.l2 : Nat → Bool → List (S32) → List (S32) → Int → Option (Bool)
  | 0, _, _, _, _ => none
  | k + 1, x5, x11, x12, x13 => if x13 < (x11.length : Int) then (ostiarylaw22_SetsTurned.l3 k x5 x11 x12 x13 0 0) else (if x5 = true then ((sets_Least.f k x11).bind fun t176 => ((sets_Least.f k x12).bind fun t177 => (some (t176 == t177)))) else (some false))
def ostiarylaw22_SetsTurned.l3 : Nat → Bool → List (S32) → List (S32) → Int → Int → Int → Option (Bool)
  | 0, _, _, _, _, _, _ => none
  | k + 1, x5, x11, x12, x13, x14, x15 => if x15 < (x12.length : Int) then (if 0 ≤ x13 then (if x13 < (x11.length : Int) then (if 0 ≤ x15 then ((sets_Same.f ((rd_T32 x11 x13).f0) ((rd_T32 x11 x13).f1) ((rd_T32 x11 x13).f2) ((rd_T32 x11 x13).f3) ((rd_T32 x11 x13).f4) ((rd_T32 x12 x15).f0) ((rd_T32 x12 x15).f1) ((rd_T32 x12 x15).f2) ((rd_T32 x12 x15).f3) ((rd_T32 x12 x15).f4)).bind fun t180 => (if t180 = true then (if ((rd_T32 x11 x13).f3) = ((rd_T32 x12 x15).f3) then (ostiarylaw22_SetsTurned.l3 k x5 x11 x12 x13 (wrap64 (x14 + 1)) (wrap64 (x15 + 1))) else (ostiarylaw22_SetsTurned.l3 k x5 x11 x12 x13 x14 (wrap64 (x15 + 1)))) else (ostiarylaw22_SetsTurned.l3 k x5 x11 x12 x13 x14 (wrap64 (x15 + 1))))) else (none)) else (none)) else (none)) else (if x14 < 1 then (some false) else (ostiarylaw22_SetsTurned.l2 k x5 x11 x12 (wrap64 (x13 + 1))))
def ostiarylaw22_SetsTurned.l1 : Nat → List (S39) → List Int → Bool → List (S39) → Int → Option (Bool)
  | 0, _, _, _, _, _ => none
  | k + 1, x0, x1, x5, x7, x8 => if x8 < (x1.length : Int) then (if (x7.length : Int) > 0 then (if (x7.length : Int) = 0 then (none) else (if 0 ≤ x8 then ((ostiarykit_Pick.f (rd x1 x8) (x7.length : Int)).bind fun t165 => (if 0 ≤ t165 then (if t165 < (x7.length : Int) then (if 0 ≤ (Int.tmod x8 (x7.length : Int)) then (if (Int.tmod x8 (x7.length : Int)) < (x7.length : Int) then (ostiarylaw22_SetsTurned.l1 k x0 x1 x5 ((x7.set ((Int.tmod x8 (x7.length : Int)) : Int).toNat (⟨(rd_T39 x7 t165).f0, (rd_T39 x7 t165).f1, (rd_T39 x7 t165).f2, (rd_T39 x7 t165).f3, (rd_T39 x7 t165).f4⟩ : S39)).set (t165 : Int).toNat (⟨(rd_T39 x7 (Int.tmod x8 (x7.length : Int))).f0, (rd_T39 x7 (Int.tmod x8 (x7.length : Int))).f1, (rd_T39 x7 (Int.tmod x8 (x7.length : Int))).f2, (rd_T39 x7 (Int.tmod x8 (x7.length : Int))).f3, (rd_T39 x7 (Int.tmod x8 (x7.length : Int))).f4⟩ : S39)) (wrap64 (x8 + 1))) else (none)) else (none)) else (none)) else (none))) else (none))) else (ostiarylaw22_SetsTurned.j3 k x0 x5 x7)) else (ostiarylaw22_SetsTurned.j3 k x0 x5 x7)
end
def ostiarylaw22_SetsTurned.f (k : Nat) (l0 : List (S39)) (l1 : List Int) : Option (Bool) := (ostiarylaw22_awake.f).bind fun t151 => ((ostiarykit_LongRecs.f k l0 40).bind fun t152 => (if t152 = true then (ostiarylaw22_SetsTurned.j0 k l0 l1 t151 true) else (ostiarylaw22_SetsTurned.j0 k l0 l1 t151 (decide ((l1.length : Int) > 100)))))
theorem ostiarylaw22_SetsTurned.mono_l : ∀ k, (∀ y0 y1 y2 y3, LeO (ostiarylaw22_SetsTurned.j0 k y0 y1 y2 y3) (ostiarylaw22_SetsTurned.j0 (k + 1) y0 y1 y2 y3)) ∧ (∀ y0 y1 y2 y3, LeO (ostiarylaw22_SetsTurned.l0 k y0 y1 y2 y3) (ostiarylaw22_SetsTurned.l0 (k + 1) y0 y1 y2 y3)) ∧ (∀ y0 y1 y2, LeO (ostiarylaw22_SetsTurned.j3 k y0 y1 y2) (ostiarylaw22_SetsTurned.j3 (k + 1) y0 y1 y2)) ∧ (∀ y0 y1 y2 y3, LeO (ostiarylaw22_SetsTurned.l2 k y0 y1 y2 y3) (ostiarylaw22_SetsTurned.l2 (k + 1) y0 y1 y2 y3)) ∧ (∀ y0 y1 y2 y3 y4 y5, LeO (ostiarylaw22_SetsTurned.l3 k y0 y1 y2 y3 y4 y5) (ostiarylaw22_SetsTurned.l3 (k + 1) y0 y1 y2 y3 y4 y5)) ∧ (∀ y0 y1 y2 y3 y4, LeO (ostiarylaw22_SetsTurned.l1 k y0 y1 y2 y3 y4) (ostiarylaw22_SetsTurned.l1 (k + 1) y0 y1 y2 y3 y4))
  | 0 => ⟨fun _ _ _ _ r h => by simp [ostiarylaw22_SetsTurned.j0] at h, fun _ _ _ _ r h => by simp [ostiarylaw22_SetsTurned.l0] at h, fun _ _ _ r h => by simp [ostiarylaw22_SetsTurned.j3] at h, fun _ _ _ _ r h => by simp [ostiarylaw22_SetsTurned.l2] at h, fun _ _ _ _ _ _ r h => by simp [ostiarylaw22_SetsTurned.l3] at h, fun _ _ _ _ _ r h => by simp [ostiarylaw22_SetsTurned.l1] at h⟩
  | k + 1 => by
    obtain ⟨ih0, ih1, ih2, ih3, ih4, ih5⟩ := ostiarylaw22_SetsTurned.mono_l k
    refine ⟨?_, ?_, ?_, ?_, ?_, ?_⟩
    · intro y0 y1 y2 y3
      unfold ostiarylaw22_SetsTurned.j0
      repeat' first
      | (with_reducible exact ih0 _ _ _ _)
      | (with_reducible exact ih1 _ _ _ _)
      | (with_reducible exact ih2 _ _ _)
      | (with_reducible exact ih3 _ _ _ _)
      | (with_reducible exact ih4 _ _ _ _ _ _)
      | (with_reducible exact ih5 _ _ _ _ _)
      | (with_reducible exact ostiarykit_LongRecs.mono _ _ _)
      | (with_reducible exact sets_Least.mono _ _)
      | (with_reducible exact LeO.refl _)
      | (with_reducible exact LeO.none _)
      | (with_reducible refine LeO.ite ?_ ?_)
      | (with_reducible refine LeO.bind ?_ (fun _ => ?_))
      | exact ih0 _ _ _ _
      | exact ih1 _ _ _ _
      | exact ih2 _ _ _
      | exact ih3 _ _ _ _
      | exact ih4 _ _ _ _ _ _
      | exact ih5 _ _ _ _ _
      | exact ostiarykit_LongRecs.mono _ _ _
      | exact sets_Least.mono _ _
      | exact LeO.none _
      | refine LeO.ite ?_ ?_
      | refine LeO.bind ?_ (fun _ => ?_)
    · intro y0 y1 y2 y3
      unfold ostiarylaw22_SetsTurned.l0
      repeat' first
      | (with_reducible exact ih0 _ _ _ _)
      | (with_reducible exact ih1 _ _ _ _)
      | (with_reducible exact ih2 _ _ _)
      | (with_reducible exact ih3 _ _ _ _)
      | (with_reducible exact ih4 _ _ _ _ _ _)
      | (with_reducible exact ih5 _ _ _ _ _)
      | (with_reducible exact ostiarykit_LongRecs.mono _ _ _)
      | (with_reducible exact sets_Least.mono _ _)
      | (with_reducible exact LeO.refl _)
      | (with_reducible exact LeO.none _)
      | (with_reducible refine LeO.ite ?_ ?_)
      | (with_reducible refine LeO.bind ?_ (fun _ => ?_))
      | exact ih0 _ _ _ _
      | exact ih1 _ _ _ _
      | exact ih2 _ _ _
      | exact ih3 _ _ _ _
      | exact ih4 _ _ _ _ _ _
      | exact ih5 _ _ _ _ _
      | exact ostiarykit_LongRecs.mono _ _ _
      | exact sets_Least.mono _ _
      | exact LeO.none _
      | refine LeO.ite ?_ ?_
      | refine LeO.bind ?_ (fun _ => ?_)
    · intro y0 y1 y2
      unfold ostiarylaw22_SetsTurned.j3
      repeat' first
      | (with_reducible exact ih0 _ _ _ _)
      | (with_reducible exact ih1 _ _ _ _)
      | (with_reducible exact ih2 _ _ _)
      | (with_reducible exact ih3 _ _ _ _)
      | (with_reducible exact ih4 _ _ _ _ _ _)
      | (with_reducible exact ih5 _ _ _ _ _)
      | (with_reducible exact ostiarykit_LongRecs.mono _ _ _)
      | (with_reducible exact sets_Least.mono _ _)
      | (with_reducible exact LeO.refl _)
      | (with_reducible exact LeO.none _)
      | (with_reducible refine LeO.ite ?_ ?_)
      | (with_reducible refine LeO.bind ?_ (fun _ => ?_))
      | exact ih0 _ _ _ _
      | exact ih1 _ _ _ _
      | exact ih2 _ _ _
      | exact ih3 _ _ _ _
      | exact ih4 _ _ _ _ _ _
      | exact ih5 _ _ _ _ _
      | exact ostiarykit_LongRecs.mono _ _ _
      | exact sets_Least.mono _ _
      | exact LeO.none _
      | refine LeO.ite ?_ ?_
      | refine LeO.bind ?_ (fun _ => ?_)
    · intro y0 y1 y2 y3
      unfold ostiarylaw22_SetsTurned.l2
      repeat' first
      | (with_reducible exact ih0 _ _ _ _)
      | (with_reducible exact ih1 _ _ _ _)
      | (with_reducible exact ih2 _ _ _)
      | (with_reducible exact ih3 _ _ _ _)
      | (with_reducible exact ih4 _ _ _ _ _ _)
      | (with_reducible exact ih5 _ _ _ _ _)
      | (with_reducible exact ostiarykit_LongRecs.mono _ _ _)
      | (with_reducible exact sets_Least.mono _ _)
      | (with_reducible exact LeO.refl _)
      | (with_reducible exact LeO.none _)
      | (with_reducible refine LeO.ite ?_ ?_)
      | (with_reducible refine LeO.bind ?_ (fun _ => ?_))
      | exact ih0 _ _ _ _
      | exact ih1 _ _ _ _
      | exact ih2 _ _ _
      | exact ih3 _ _ _ _
      | exact ih4 _ _ _ _ _ _
      | exact ih5 _ _ _ _ _
      | exact ostiarykit_LongRecs.mono _ _ _
      | exact sets_Least.mono _ _
      | exact LeO.none _
      | refine LeO.ite ?_ ?_
      | refine LeO.bind ?_ (fun _ => ?_)
    · intro y0 y1 y2 y3 y4 y5
      unfold ostiarylaw22_SetsTurned.l3
      repeat' first
      | (with_reducible exact ih0 _ _ _ _)
      | (with_reducible exact ih1 _ _ _ _)
      | (with_reducible exact ih2 _ _ _)
      | (with_reducible exact ih3 _ _ _ _)
      | (with_reducible exact ih4 _ _ _ _ _ _)
      | (with_reducible exact ih5 _ _ _ _ _)
      | (with_reducible exact ostiarykit_LongRecs.mono _ _ _)
      | (with_reducible exact sets_Least.mono _ _)
      | (with_reducible exact LeO.refl _)
      | (with_reducible exact LeO.none _)
      | (with_reducible refine LeO.ite ?_ ?_)
      | (with_reducible refine LeO.bind ?_ (fun _ => ?_))
      | exact ih0 _ _ _ _
      | exact ih1 _ _ _ _
      | exact ih2 _ _ _
      | exact ih3 _ _ _ _
      | exact ih4 _ _ _ _ _ _
      | exact ih5 _ _ _ _ _
      | exact ostiarykit_LongRecs.mono _ _ _
      | exact sets_Least.mono _ _
      | exact LeO.none _
      | refine LeO.ite ?_ ?_
      | refine LeO.bind ?_ (fun _ => ?_)
    · intro y0 y1 y2 y3 y4
      unfold ostiarylaw22_SetsTurned.l1
      repeat' first
      | (with_reducible exact ih0 _ _ _ _)
      | (with_reducible exact ih1 _ _ _ _)
      | (with_reducible exact ih2 _ _ _)
      | (with_reducible exact ih3 _ _ _ _)
      | (with_reducible exact ih4 _ _ _ _ _ _)
      | (with_reducible exact ih5 _ _ _ _ _)
      | (with_reducible exact ostiarykit_LongRecs.mono _ _ _)
      | (with_reducible exact sets_Least.mono _ _)
      | (with_reducible exact LeO.refl _)
      | (with_reducible exact LeO.none _)
      | (with_reducible refine LeO.ite ?_ ?_)
      | (with_reducible refine LeO.bind ?_ (fun _ => ?_))
      | exact ih0 _ _ _ _
      | exact ih1 _ _ _ _
      | exact ih2 _ _ _
      | exact ih3 _ _ _ _
      | exact ih4 _ _ _ _ _ _
      | exact ih5 _ _ _ _ _
      | exact ostiarykit_LongRecs.mono _ _ _
      | exact sets_Least.mono _ _
      | exact LeO.none _
      | refine LeO.ite ?_ ?_
      | refine LeO.bind ?_ (fun _ => ?_)
theorem ostiarylaw22_SetsTurned.mono : ∀ a0 a1 k, LeO (ostiarylaw22_SetsTurned.f k a0 a1) (ostiarylaw22_SetsTurned.f (k + 1) a0 a1) := by
  intro a0 a1 k
  obtain ⟨ih0, ih1, ih2, ih3, ih4, ih5⟩ := ostiarylaw22_SetsTurned.mono_l k
  unfold ostiarylaw22_SetsTurned.f
  repeat' first
      | (with_reducible exact ih0 _ _ _ _)
      | (with_reducible exact ih1 _ _ _ _)
      | (with_reducible exact ih2 _ _ _)
      | (with_reducible exact ih3 _ _ _ _)
      | (with_reducible exact ih4 _ _ _ _ _ _)
      | (with_reducible exact ih5 _ _ _ _ _)
      | (with_reducible exact ostiarykit_LongRecs.mono _ _ _)
      | (with_reducible exact sets_Least.mono _ _)
      | (with_reducible exact LeO.refl _)
      | (with_reducible exact LeO.none _)
      | (with_reducible refine LeO.ite ?_ ?_)
      | (with_reducible refine LeO.bind ?_ (fun _ => ?_))
      | exact ih0 _ _ _ _
      | exact ih1 _ _ _ _
      | exact ih2 _ _ _
      | exact ih3 _ _ _ _
      | exact ih4 _ _ _ _ _ _
      | exact ih5 _ _ _ _ _
      | exact ostiarykit_LongRecs.mono _ _ _
      | exact sets_Least.mono _ _
      | exact LeO.none _
      | refine LeO.ite ?_ ?_
      | refine LeO.bind ?_ (fun _ => ?_)
def ostiarylaw22_SetsTurned.T13 : Bool × List (List Nat × List Nat) := (true, [([], []), ([], []), ([1], [1]), ([0, 2], [0, 2]), ([], []), ([], []), ([4, 5], [4, 5]), ([6], [6]), ([], []), ([8], [8]), ([7, 9], [7, 9]), ([3, 10, 0, 1, 2, 3], [3]), ([10, 11, 0, 1, 2, 3, 4, 5, 6, 7, 8, 9, 10, 11], [10])])
def ostiarylaw22_SetsTurned.B13 : List Nat := [0, 0, 2, 7, 0, 0, 48, 112, 0, 256, 1008, 2047, 4095]
theorem ostiarylaw22_SetsTurned.tab13 : rtab .any (opsOf Try.f5 13) = ostiarylaw22_SetsTurned.T13 := by kernel_rfl
theorem ostiarylaw22_SetsTurned.bits13 : waitsOk ostiarylaw22_SetsTurned.T13.2 ostiarylaw22_SetsTurned.B13 = true := by kernel_rfl
def ostiarylaw22_SetsTurned.T14 : Bool × List (List Nat × List Nat) := (true, [([], []), ([], []), ([], []), ([], []), ([], []), ([], []), ([4, 5], [4, 5]), ([6], [6]), ([], []), ([], []), ([8, 9], [8, 9]), ([10], [10]), ([0, 1, 0, 1, 4, 5, 6, 7, 11], [0, 1]), ([12, 7, 0, 1, 4, 5, 6, 7, 11], [7, 12]), ([2, 3, 0, 1, 2, 3, 4, 5, 6, 7, 8, 9, 10, 11, 12, 13], [2, 3]), ([14, 11, 13, 0, 1, 2, 3, 4, 5, 6, 7, 8, 9, 10, 11, 12, 13], [11, 14])])
def ostiarylaw22_SetsTurned.B14 : List Nat := [0, 0, 0, 0, 0, 0, 48, 112, 0, 0, 768, 1792, 4083, 8179, 16383, 32767]
theorem ostiarylaw22_SetsTurned.tab14 : rtab .any (opsOf Try.f5 14) = ostiarylaw22_SetsTurned.T14 := by kernel_rfl
theorem ostiarylaw22_SetsTurned.bits14 : waitsOk ostiarylaw22_SetsTurned.T14.2 ostiarylaw22_SetsTurned.B14 = true := by kernel_rfl
def ostiarylaw22_SetsTurned.T25 : Bool × List (List Nat × List Nat) := (true, [([], []), ([], []), ([0, 1], [0, 1]), ([2], [2]), ([], []), ([], []), ([4, 5], [4, 5]), ([6], [6]), ([3, 7], [3, 7]), ([8, 8], [8]), ([9], [9]), ([9], [9]), ([10, 11, 9], [9, 10, 11]), ([12, 9], [9, 12]), ([13, 9], [9, 13]), ([9], [9]), ([9], [9]), ([15, 16, 9], [9, 15, 16]), ([17, 9], [9, 17]), ([18, 9], [9, 18]), ([14, 19, 9], [9, 14, 19]), ([9, 20], [9, 20])])
def ostiarylaw22_SetsTurned.B25 : List Nat := [0, 0, 3, 7, 0, 0, 48, 112, 255, 511, 1023, 1023, 4095, 8191, 16383, 1023, 1023, 99327, 230399, 492543, 1048575, 2097151]
theorem ostiarylaw22_SetsTurned.tab25 : rtab .any (opsOf Try.f5 25) = ostiarylaw22_SetsTurned.T25 := by kernel_rfl
theorem ostiarylaw22_SetsTurned.bits25 : waitsOk ostiarylaw22_SetsTurned.T25.2 ostiarylaw22_SetsTurned.B25 = true := by kernel_rfl
set_option maxHeartbeats 8000000 in
set_option maxRecDepth 100000 in
theorem ostiarylaw22_SetsTurned.calls (k : Nat) (A0 : Option Addr) (c0 : Nat) (l0 : List (S39)) (A1 : Option Addr) (c1 : Nat) (l1 : List Int) (r : Bool) (w : World) (hr0 : Kd.C k39 w A0 l0.length l0) (hc0 : l0.length ≤ c0) (hr1 : Kd.C (Kd.int .i64) w A1 l1.length l1) (hc1 : l1.length ≤ c1) (h : ostiarylaw22_SetsTurned.f k l0 l1 = some r) :
    Calls Try.prog 5 #[.slice A0 l0.length c0, .slice A1 l1.length c1] w fun e w' => e = .returned (.bool r) ∧ Below w.heap.size w w' := by
  have hu32 := Try.underlying32
  have hu39 := Try.underlying39
  have HR0 := Aside0.mk hr0
  have HC0 := Aside0.mk hc0
  clear hr0 hc0
  have HR1 := Aside0.mk hr1
  have HC1 := Aside0.mk hc1
  clear hr1 hc1
  have HB := Aside0.mk (Below.refl w.heap.size w)
  have H : ((ostiarylaw22_awake.f).bind fun t151 => ((ostiarykit_LongRecs.f k l0 40).bind fun t152 => (if t152 = true then (ostiarylaw22_SetsTurned.j0 k l0 l1 t151 true) else (ostiarylaw22_SetsTurned.j0 k l0 l1 t151 (decide ((l1.length : Int) > 100)))))) = some r := h
  clear h
  replace H := Option.bind_eq_some_iff.mp H
  obtain ⟨t151, A30, H⟩ := H
  replace H : ((ostiarykit_LongRecs.f k l0 40).bind fun t152 => (if t152 = true then (ostiarylaw22_SetsTurned.j0 k l0 l1 t151 true) else (ostiarylaw22_SetsTurned.j0 k l0 l1 t151 (decide ((l1.length : Int) > 100))))) = some r := H
  have A3 := Aside0.mk A30
  clear A30
  have HC4 := Aside0.mk H
  clear H
  go_enter Try.func5, Try.ntmps5
  go_upto_region 2 with (first | ((with_reducible refine gate_callee (f := 16) rfl ?_); refine goesL_ (some 16) rfl rfl Try.func16 (by kernel_rfl) rfl #[] rfl (by (try simp only [List.map_toArray, List.map_cons, List.map_nil]); first | done | rfl | (simp only [List.length_drop, List.length_take]; rfl)) ?_; (with_reducible refine (ostiarylaw22_awake.calls  t151 _ A3.out).mono ?_); rintro e w5 ⟨rfl, hb⟩; refine ⟨_, rfl, ?_⟩; have n0_ := Aside0.mk (below_step (by repeat (first | (with_reducible first | exact HB.out | apply below_alloc | apply pw_below_drewN | apply below_drew1) | exact HB.out)) hb); clear HB; have HB := n0_; clear n0_; (try clear hb); (try clear hb2); (try clear hk); (try clear hi)))
  (try simp only [Act.put, List.setIfInBounds_toArray, List.set_cons_zero, List.set_cons_succ])
  go_cut [23] (fun v23 wc => ∃ (kq : Nat) (x23_3 : Bool), v23 = .bool x23_3 ∧ Aside0 (ostiarylaw22_SetsTurned.j0 kq l0 l1 t151 x23_3 = some r) ∧ Aside0 (kq ≤ k) ∧ Aside0 (Below w.heap.size w wc))
  case first =>
    have H := HC4.out
    clear HC4
    replace H := Option.bind_eq_some_iff.mp H
    obtain ⟨t152, A60, H⟩ := H
    replace H : (if t152 = true then (ostiarylaw22_SetsTurned.j0 k l0 l1 t151 true) else (ostiarylaw22_SetsTurned.j0 k l0 l1 t151 (decide ((l1.length : Int) > 100)))) = some r := H
    have A6 := Aside0.mk A60
    clear A60
    by_cases c7 : t152 = true
    · subst c7
      have H1 : (ostiarylaw22_SetsTurned.j0 k l0 l1 t151 true) = some r := by rw [if_pos rfl] at H; exact H
      clear H
      have H := H1
      clear H1
      have H' := Aside0.mk H
      clear H
      go_wp2_with (first | ((with_reducible refine gate_callee (f := 15) rfl ?_); refine goesL_ (some 18) rfl rfl Try.func15 (by kernel_rfl) rfl #[.slice A0 l0.length c0, .int .i64 40] rfl (by (try simp only [List.map_toArray, List.map_cons, List.map_nil]); first | done | rfl | (simp only [List.length_drop, List.length_take]; rfl)) ?_; (with_reducible refine (ostiarykit_LongRecs.calls k _ _ l0 40 true _ ?side1 ?side2 A6.out).mono ?_); (case side1 => repeat (first | exact (Kd.C_below HR0.out HB.out) | (with_reducible refine Kd.C_alloc ?_ _) | (with_reducible refine Kd.C_drewN ?_ _) | (with_reducible refine Kd.C_drew ?_))); (case side2 => exact HC0.out); rintro e w' ⟨rfl, ⟨nd, rfl⟩⟩; refine ⟨_, rfl, ?_⟩))
      go_meet
      case rel => exact ⟨_, (true), (by first | rfl | (simp; done) | (simp [*]; done)), H', ⟨by first | omega | exact Nat.le_refl _⟩, ⟨by repeat (first | (with_reducible first | exact HB.out | apply below_alloc | apply pw_below_drewN | apply below_drew1) | exact HB.out)⟩⟩
    · replace c7 := Bool.eq_false_iff.mpr c7
      subst c7
      have H1 : (ostiarylaw22_SetsTurned.j0 k l0 l1 t151 (decide ((l1.length : Int) > 100))) = some r := by rw [if_neg (show ¬ (false = true) by decide)] at H; exact H
      clear H
      have H := H1
      clear H1
      have H' := Aside0.mk H
      clear H
      go_wp2_with (first | ((with_reducible refine gate_callee (f := 15) rfl ?_); refine goesL_ (some 18) rfl rfl Try.func15 (by kernel_rfl) rfl #[.slice A0 l0.length c0, .int .i64 40] rfl (by (try simp only [List.map_toArray, List.map_cons, List.map_nil]); first | done | rfl | (simp only [List.length_drop, List.length_take]; rfl)) ?_; (with_reducible refine (ostiarykit_LongRecs.calls k _ _ l0 40 false _ ?side1 ?side2 A6.out).mono ?_); (case side1 => repeat (first | exact (Kd.C_below HR0.out HB.out) | (with_reducible refine Kd.C_alloc ?_ _) | (with_reducible refine Kd.C_drewN ?_ _) | (with_reducible refine Kd.C_drew ?_))); (case side2 => exact HC0.out); rintro e w' ⟨rfl, ⟨nd, rfl⟩⟩; refine ⟨_, rfl, ?_⟩))
      go_meet
      case rel => exact ⟨_, (decide ((l1.length : Int) > 100)), (by first | rfl | (simp; done) | (simp [*]; done)), H', ⟨by first | omega | exact Nat.le_refl _⟩, ⟨by repeat (first | (with_reducible first | exact HB.out | apply below_alloc | apply pw_below_drewN | apply below_drew1) | exact HB.out)⟩⟩
  case rest =>
    clear HC4
    try clear c1
    try clear p2
    try clear c5
    try clear c7
    obtain ⟨kq, x23_3, rfl, HA, HJ3, HB⟩ := hcut
    cases kq with
    | zero => exact absurd HA.out (by simp [ostiarylaw22_SetsTurned.j0])
    | succ kj3 =>
      have H := HA.out
      clear HA
      simp only [ostiarylaw22_SetsTurned.j0] at H
      by_cases c8 : x23_3 = true
      · subst c8
        have H1 : (some t151) = some r := by rw [if_pos rfl] at H; exact H
        clear H
        have H := H1
        clear H1
        obtain rfl := Option.some.inj H
        go_wp2
        go_ret
        exact ⟨by first | rfl | (simp [errW_none, errW_some] <;> rfl) | (simp [*, errW_none, errW_some] <;> rfl), by repeat (first | (with_reducible first | exact HB.out | apply below_alloc | apply pw_below_drewN | apply below_drew1) | exact HB.out)⟩
      · replace c8 := Bool.eq_false_iff.mpr c8
        subst c8
        have H1 : (ostiarylaw22_SetsTurned.l0 kj3 l0 l1 t151 0) = some r := by rw [if_neg (show ¬ (false = true) by decide)] at H; exact H
        clear H
        have H := H1
        clear H1
        have H' := Aside0.mk H
        clear H
        go_wp2
        go_loopg [6] kj3 (fun kq v6 w' => ∃ (x6_2 : Int), v6 = .int .i64 x6_2 ∧ Aside0 (ostiarylaw22_SetsTurned.l0 kq l0 l1 t151 x6_2 = some r) ∧ Aside0 (kq ≤ kj3) ∧ Aside0 (Below w.heap.size w w'))
        case atStart => exact ⟨(0), (by first | rfl | (simp; done) | (simp [*]; done)), H', ⟨Nat.le_refl _⟩, ⟨by repeat (first | (with_reducible first | exact HB.out | apply below_alloc | apply pw_below_drewN | apply below_drew1) | exact HB.out)⟩⟩
        case round =>
          clear H'
          try clear c1
          try clear p2
          try clear c5
          try clear c7
          try clear c8
          try clear p2
          obtain ⟨x6_2, rfl, HA, HK2, HB⟩ := hrel
          cases gk with
          | zero => exact absurd HA.out (by simp [ostiarylaw22_SetsTurned.l0])
          | succ k2 =>
            have H := HA.out
            clear HA
            simp only [ostiarylaw22_SetsTurned.l0] at H
            by_cases c9 : x6_2 < (l0.length : Int)
            · rw [if_pos c9] at H
              have c9b0 : decide (x6_2 < (l0.length : Int)) = true := decide_eq_true c9
              clear c9
              by_cases c10 : 0 ≤ x6_2
              · rw [if_pos c10] at H
                have c10b0 : decide (0 ≤ x6_2) = true := decide_eq_true c10
                clear c10
                obtain ⟨y154, hy154⟩ : ∃ y_ : List ByteArray, y_ = (([(⟨#[]⟩ : ByteArray)] : List ByteArray)) := ⟨_, rfl⟩
                replace H : ((sets_Check.f ((rd_T39 l0 x6_2).f0) 0 0 0 y154).bind fun t157 => (if t157 = 0 then (ostiarylaw22_SetsTurned.l0 k2 l0 l1 t151 (wrap64 (x6_2 + 1))) else (some t151))) = some r := by first | (rw [hy154]; with_reducible exact H) | (have H2_ := (Option.bind_some _ _).symm.trans H; rw [hy154]; with_reducible exact H2_) | (have H2_ := (Option.bind_some _ _).symm.trans H; with_reducible exact H2_) | with_reducible exact H | (rw [hy154]; exact H) | exact H
                have Ny154 := Aside0.mk hy154
                clear hy154
                replace H := Option.bind_eq_some_iff.mp H
                obtain ⟨t157, A110, H⟩ := H
                replace H : (if t157 = 0 then (ostiarylaw22_SetsTurned.l0 k2 l0 l1 t151 (wrap64 (x6_2 + 1))) else (some t151)) = some r := H
                have A11 := Aside0.mk A110
                clear A110
                by_cases c12 : t157 = 0
                · rw [if_pos c12] at H
                  have c12b0 : (t157 == 0) = true := beq_iff_eq.mpr c12
                  have c12b1 : (t157 != 0) = false := bne_eq_false_iff_eq.mpr c12
                  clear c12
                  have H' := Aside0.mk H
                  clear H
                  have p153 : 0 ≤ (x6_2 : Int) := of_decide_eq_true (by first | (with_reducible assumption) | assumption)
                  have q153 : x6_2 < (l0.length : Int) := of_decide_eq_true (by first | (with_reducible assumption) | assumption)
                  obtain ⟨ad153, e153, hx153_0, hx153_1, hx153_2, hx153_3, hx153_4⟩ := at_T39 HR0.out x6_2 p153 q153
                  cases e153
                  replace hx153_0 := (HB.out.cell (World.block_lt_of_cell? w _ hx153_0)).trans hx153_0
                  replace hx153_1 := (HB.out.cell (World.block_lt_of_cell? w _ hx153_1)).trans hx153_1
                  replace hx153_2 := (HB.out.cell (World.block_lt_of_cell? w _ hx153_2)).trans hx153_2
                  replace hx153_3 := (HB.out.cell (World.block_lt_of_cell? w _ hx153_3)).trans hx153_3
                  replace hx153_4 := (HB.out.cell (World.block_lt_of_cell? w _ hx153_4)).trans hx153_4
                  replace p153 := eq_true p153
                  replace q153 := eq_true q153
                  go_wp2_with (first | ((with_reducible refine gate_dst (N := 36) rfl ?_); (try (refine gate_guard (by rfl) ?_; dsimp only)); refine Kd.R_lit Kd.string _ 9 ?hg (N := 36) ?hd (xs := ([(⟨#[]⟩ : ByteArray)] : List ByteArray)) (inner := [.string (⟨#[]⟩ : ByteArray)]) (ok := fun _ => True) (okp := fun _ => True) ?hr ?hp (fun _ hk => hk) trivial (Below.refl _ _) (Nat.le_refl _) (by simp) ?_; (case hd => rfl); (case hg => rfl); (case hr => first | (go_simp; done) | (go_simp; rfl)); (case hp => exact (Reps.one (show Kd.M Kd.string _ _ _ (⟨#[]⟩ : ByteArray) [.string (⟨#[]⟩ : ByteArray)] from rfl) (Reps.none _ _))); intro v155 w13 ho14 hb hg_ hnew_; clear hg_ hnew_; (first | rw [← Ny154.out] at ho14 | (simp only [Int.reduceToNat] at ho14; rw [← Ny154.out] at ho14)); have n0_ := Aside0.mk (Kd.R_lower ho14 (below_size (by repeat (first | (with_reducible first | exact HB.out | apply below_alloc | apply pw_below_drewN | apply below_drew1) | exact HB.out)))); have n1_ := Aside0.mk (below_step (by repeat (first | (with_reducible first | exact HB.out | apply below_alloc | apply pw_below_drewN | apply below_drew1) | exact HB.out)) hb); clear HB; have HO156 := n0_; have HB := n1_; clear n0_ n1_; clear hb ho14; obtain ⟨Ao15, co15, eo15⟩ := Kd.R_slice HO156.out; subst eo15) | ((with_reducible refine gate_callee (f := 25) rfl ?_); refine goesL_ (some 38) rfl rfl Try.func25 (by kernel_rfl) rfl #[.agg #[.string ((rd_T39 l0 x6_2).f0), .int .i64 0, .int .i64 0, .int .i64 0, .slice Ao15 y154.length co15]] rfl (by (try simp only [List.map_toArray, List.map_cons, List.map_nil]); first | done | rfl | (simp only [List.length_drop, List.length_take]; rfl)) ?_; (with_reducible refine (sets_Check.calls ((rd_T39 l0 x6_2).f0) 0 0 0 _ _ y154 t157 _ ?side1 ?side2 A11.out).mono ?_); (case side1 => repeat (first | exact (Kd.R_reads' HO156.out).2.2 | (with_reducible refine Kd.C_alloc ?_ _) | (with_reducible refine Kd.C_drewN ?_ _) | (with_reducible refine Kd.C_drew ?_))); (case side2 => exact (Kd.R_reads' HO156.out).2.1); rintro e w16 ⟨rfl, hb⟩; refine ⟨_, rfl, ?_⟩; have n0_ := Aside0.mk (Kd.R_below (by (with_reducible repeat (first | apply Kd.R_alloc | apply Kd.R_drewN | apply Kd.R_drew)); exact HO156.out) hb); have n1_ := Aside0.mk (below_step (by repeat (first | (with_reducible first | exact HB.out | apply below_alloc | apply pw_below_drewN | apply below_drew1) | exact HB.out)) hb); clear HO156; clear HB; have HO156 := n0_; have HB := n1_; clear n0_ n1_; (try clear hb); (try clear hb2); (try clear hk); (try clear hi)))
                  go_roundg k2
                  case measure => have := HJ3.out; have := HK2.out; omega
                  case rel => exact ⟨(wrap64 (x6_2 + 1)), (by first | rfl | (simp; done) | (simp [*]; done)), H', ⟨by have := HJ3.out; have := HK2.out; omega⟩, ⟨by repeat (first | (with_reducible first | exact HB.out | apply below_alloc | apply pw_below_drewN | apply below_drew1) | exact HB.out)⟩⟩
                · rw [if_neg c12] at H
                  have c12b0 : (t157 == 0) = false := beq_eq_false_iff_ne.mpr c12
                  have c12b1 : (t157 != 0) = true := bne_iff_ne.mpr c12
                  obtain rfl := Option.some.inj H
                  have p153 : 0 ≤ (x6_2 : Int) := of_decide_eq_true (by first | (with_reducible assumption) | assumption)
                  have q153 : x6_2 < (l0.length : Int) := of_decide_eq_true (by first | (with_reducible assumption) | assumption)
                  obtain ⟨ad153, e153, hx153_0, hx153_1, hx153_2, hx153_3, hx153_4⟩ := at_T39 HR0.out x6_2 p153 q153
                  cases e153
                  replace hx153_0 := (HB.out.cell (World.block_lt_of_cell? w _ hx153_0)).trans hx153_0
                  replace hx153_1 := (HB.out.cell (World.block_lt_of_cell? w _ hx153_1)).trans hx153_1
                  replace hx153_2 := (HB.out.cell (World.block_lt_of_cell? w _ hx153_2)).trans hx153_2
                  replace hx153_3 := (HB.out.cell (World.block_lt_of_cell? w _ hx153_3)).trans hx153_3
                  replace hx153_4 := (HB.out.cell (World.block_lt_of_cell? w _ hx153_4)).trans hx153_4
                  replace p153 := eq_true p153
                  replace q153 := eq_true q153
                  go_wp2_with (first | ((with_reducible refine gate_dst (N := 36) rfl ?_); (try (refine gate_guard (by rfl) ?_; dsimp only)); refine Kd.R_lit Kd.string _ 9 ?hg (N := 36) ?hd (xs := ([(⟨#[]⟩ : ByteArray)] : List ByteArray)) (inner := [.string (⟨#[]⟩ : ByteArray)]) (ok := fun _ => True) (okp := fun _ => True) ?hr ?hp (fun _ hk => hk) trivial (Below.refl _ _) (Nat.le_refl _) (by simp) ?_; (case hd => rfl); (case hg => rfl); (case hr => first | (go_simp; done) | (go_simp; rfl)); (case hp => exact (Reps.one (show Kd.M Kd.string _ _ _ (⟨#[]⟩ : ByteArray) [.string (⟨#[]⟩ : ByteArray)] from rfl) (Reps.none _ _))); intro v155 w17 ho18 hb hg_ hnew_; clear hg_ hnew_; (first | rw [← Ny154.out] at ho18 | (simp only [Int.reduceToNat] at ho18; rw [← Ny154.out] at ho18)); have n0_ := Aside0.mk (Kd.R_lower ho18 (below_size (by repeat (first | (with_reducible first | exact HB.out | apply below_alloc | apply pw_below_drewN | apply below_drew1) | exact HB.out)))); have n1_ := Aside0.mk (below_step (by repeat (first | (with_reducible first | exact HB.out | apply below_alloc | apply pw_below_drewN | apply below_drew1) | exact HB.out)) hb); clear HB; have HO156 := n0_; have HB := n1_; clear n0_ n1_; clear hb ho18; obtain ⟨Ao19, co19, eo19⟩ := Kd.R_slice HO156.out; subst eo19) | ((with_reducible refine gate_callee (f := 25) rfl ?_); refine goesL_ (some 38) rfl rfl Try.func25 (by kernel_rfl) rfl #[.agg #[.string ((rd_T39 l0 x6_2).f0), .int .i64 0, .int .i64 0, .int .i64 0, .slice Ao19 y154.length co19]] rfl (by (try simp only [List.map_toArray, List.map_cons, List.map_nil]); first | done | rfl | (simp only [List.length_drop, List.length_take]; rfl)) ?_; (with_reducible refine (sets_Check.calls ((rd_T39 l0 x6_2).f0) 0 0 0 _ _ y154 t157 _ ?side1 ?side2 A11.out).mono ?_); (case side1 => repeat (first | exact (Kd.R_reads' HO156.out).2.2 | (with_reducible refine Kd.C_alloc ?_ _) | (with_reducible refine Kd.C_drewN ?_ _) | (with_reducible refine Kd.C_drew ?_))); (case side2 => exact (Kd.R_reads' HO156.out).2.1); rintro e w20 ⟨rfl, hb⟩; refine ⟨_, rfl, ?_⟩; have n0_ := Aside0.mk (Kd.R_below (by (with_reducible repeat (first | apply Kd.R_alloc | apply Kd.R_drewN | apply Kd.R_drew)); exact HO156.out) hb); have n1_ := Aside0.mk (below_step (by repeat (first | (with_reducible first | exact HB.out | apply below_alloc | apply pw_below_drewN | apply below_drew1) | exact HB.out)) hb); clear HO156; clear HB; have HO156 := n0_; have HB := n1_; clear n0_ n1_; (try clear hb); (try clear hb2); (try clear hk); (try clear hi)))
                  go_ret
                  exact ⟨by first | rfl | (simp [errW_none, errW_some] <;> rfl) | (simp [*, errW_none, errW_some] <;> rfl), by repeat (first | (with_reducible first | exact HB.out | apply below_alloc | apply pw_below_drewN | apply below_drew1) | exact HB.out)⟩
              · rw [if_neg c10] at H
                exact absurd H (by simp)
            · rw [if_neg c9] at H
              have c9b0 : decide (x6_2 < (l0.length : Int)) = false := decide_eq_false c9
              clear c9
              obtain ⟨y158, hy158⟩ : ∃ y_ : List (S39), y_ = (([] : List (S39))) := ⟨_, rfl⟩
              replace H : (if y158.length + l0.length < 2513169434916 then (ostiarylaw22_SetsTurned.l1 k2 l0 l1 t151 (y158 ++ l0) 0) else (none)) = some r := by first | (rw [hy158]; with_reducible exact H) | (have H2_ := (Option.bind_some _ _).symm.trans H; rw [hy158]; with_reducible exact H2_) | (have H2_ := (Option.bind_some _ _).symm.trans H; with_reducible exact H2_) | with_reducible exact H | (rw [hy158]; exact H) | exact H
              have Ny158 := Aside0.mk hy158
              clear hy158
              by_cases c21 : y158.length + l0.length < 2513169434916
              · rw [if_pos c21] at H
                have LMc21 := Aside0.mk c21
                clear c21
                obtain ⟨y161, hy161⟩ : ∃ y_ : List (S39), y_ = (y158 ++ l0) := ⟨_, rfl⟩
                replace H : (ostiarylaw22_SetsTurned.l1 k2 l0 l1 t151 y161 0) = some r := by first | (rw [hy161]; with_reducible exact H) | (have H2_ := (Option.bind_some _ _).symm.trans H; rw [hy161]; with_reducible exact H2_) | (have H2_ := (Option.bind_some _ _).symm.trans H; with_reducible exact H2_) | with_reducible exact H | (rw [hy161]; exact H) | exact H
                have Ny161 := Aside0.mk hy161
                clear hy161
                have HC22 := Aside0.mk H
                clear H
                go_upto_block 2 with (first | ((with_reducible refine gate_dst (N := 41) rfl ?_); (try (refine gate_guard (by rfl) ?_; dsimp only)); refine Kd.R_lit k39 _ 39 ?hg (N := 41) ?hd (xs := ([] : List (S39))) (inner := []) (ok := fun _ => True) (okp := fun _ => True) ?hr ?hp (fun _ hk => hk) trivial (Below.refl _ _) (Nat.le_refl _) (by simp) ?_; (case hd => rfl); (case hg => rfl); (case hr => first | (go_simp; done) | (go_simp; rfl)); (case hp => exact (Reps.none _ _)); intro v159 w23 ho24 hb hg_ hnew_; clear hg_ hnew_; (first | rw [← Ny158.out] at ho24 | (simp only [Int.reduceToNat] at ho24; rw [← Ny158.out] at ho24)); have n0_ := Aside0.mk (Kd.R_lower ho24 (below_size (by repeat (first | (with_reducible first | exact HB.out | apply below_alloc | apply pw_below_drewN | apply below_drew1) | exact HB.out)))); have n1_ := Aside0.mk (below_step (by repeat (first | (with_reducible first | exact HB.out | apply below_alloc | apply pw_below_drewN | apply below_drew1) | exact HB.out)) hb); clear HB; have HO160 := n0_; have HB := n1_; clear n0_ n1_; clear hb ho24) | ((with_reducible refine gate_builtin (b := .append) (xs := #[.tmp 41, .tmp 42]) rfl ?_); (try (refine gate_guard (by rfl) ?_; dsimp only)); at_builtin; refine Kd.R_append_rows k39 (w0 := w) w.heap.size rfl (.tmp 41) (.tmp 42) 22 39 (.agg #[(.string ⟨#[]⟩), (.int .i64 0), (.int .i64 0), (.int .i64 0), (.string ⟨#[]⟩)]) 56 rfl Try.underlying22 info39 rfl (by decide) (by omega) v159 y158 l0 _ _ _ (fun _ => True) (fun _ => False) rfl rfl ?aO ?aR (fun _ _ h => h) (fun _ h => h.elim) ?aF ?aB ?aS ?aL ?_; (case aR => repeat (first | exact (Kd.C_below HR0.out HB.out) | (with_reducible refine Kd.C_alloc ?_ _) | (with_reducible refine Kd.C_drewN ?_ _) | (with_reducible refine Kd.C_drew ?_))); (case aB => exact (by repeat (first | (with_reducible first | exact HB.out | apply below_alloc | apply pw_below_drewN | apply below_drew1) | exact HB.out))); (case aF => exact (fun _ _ => trivial)); (case aO => exact (by (with_reducible repeat (first | apply Kd.R_alloc | apply Kd.R_drewN | apply Kd.R_drew)); exact HO160.out)); (case aS => exact (below_size (by repeat (first | (with_reducible first | exact HB.out | apply below_alloc | apply pw_below_drewN | apply below_drew1) | exact HB.out)))); (case aL => have := LMc21.out; omega); intro v162 w25 ho hb hg hat; rw [← Ny161.out] at ho; have n0_ := Aside0.mk (hb); have n1_ := Aside0.mk (ho); clear HB; clear HO160; have HB := n0_; have HO163 := n1_; clear n0_ n1_; clear ho hb hg hat))
                (try simp only [Act.put, List.setIfInBounds_toArray, List.set_cons_zero, List.set_cons_succ])
                go_cut [] (fun wc => ∃ (kq : Nat) (x7_21 : List (S39)), Aside0 (ostiarylaw22_SetsTurned.j3 kq l0 t151 x7_21 = some r) ∧ Aside0 (kq ≤ k2) ∧ Aside0 (Kd.R k39 39 wc w.heap.size (fun _ => True) v162 x7_21) ∧ Aside0 (Below w.heap.size w wc))
                case first =>
                  have H := HC22.out
                  clear HC22
                  have H' := Aside0.mk H
                  clear H
                  go_wp2
                  go_loopg [8] k2 (fun kq v8 w' => ∃ (x7_3 : List (S39)) (x8_3 : Int), v8 = .int .i64 x8_3 ∧ Aside0 (ostiarylaw22_SetsTurned.l1 kq l0 l1 t151 x7_3 x8_3 = some r) ∧ Aside0 (kq ≤ k2) ∧ Aside0 (Kd.R k39 39 w' w.heap.size (fun _ => True) v162 x7_3) ∧ Aside0 (Below w.heap.size w w'))
                  case atStart => exact ⟨(y161), (0), (by first | rfl | (simp; done) | (simp [*]; done)), H', ⟨Nat.le_refl _⟩, ⟨by (with_reducible repeat (first | apply Kd.R_alloc | apply Kd.R_drewN | apply Kd.R_drew)); exact HO163.out⟩, ⟨by repeat (first | (with_reducible first | exact HB.out | apply below_alloc | apply pw_below_drewN | apply below_drew1) | exact HB.out)⟩⟩
                  case round =>
                    clear H'
                    try clear c1
                    try clear p1
                    try clear q1
                    try clear hx1
                    try clear c2
                    try clear p2
                    try clear c5
                    try clear p6
                    try clear c7
                    try clear c8
                    try clear c9
                    try clear c9b0
                    try clear c10
                    try clear c10b0
                    try clear c12
                    try clear c12b0
                    try clear c12b1
                    try clear c15
                    try clear p15
                    try clear q15
                    try clear hx15
                    try clear c16
                    try clear c21
                    try clear c25
                    try clear hx153_0
                    try clear hx153_1
                    try clear hx153_2
                    try clear hx153_3
                    try clear hx153_4
                    try clear p153
                    try clear p2
                    try clear q153
                    obtain ⟨x7_3, x8_3, rfl, HA, HK3, HO_7, HB⟩ := hrel
                    cases gk with
                    | zero => exact absurd HA.out (by simp [ostiarylaw22_SetsTurned.l1])
                    | succ k3 =>
                      have H := HA.out
                      clear HA
                      simp only [ostiarylaw22_SetsTurned.l1] at H
                      by_cases c26 : x8_3 < (l1.length : Int)
                      · rw [if_pos c26] at H
                        have c26b0 : decide (x8_3 < (l1.length : Int)) = true := decide_eq_true c26
                        clear c26
                        (first | rw [c26b0] | (simp only [i64_w, i32_w]; rw [c26b0]) | skip)
                        by_cases c27 : (x7_3.length : Int) > 0
                        · rw [if_pos c27] at H
                          have c27b0 : decide (0 < (x7_3.length : Int)) = true := decide_eq_true c27
                          have c27b1 : decide (0 < x7_3.length) = true := decide_eq_true (by omega)
                          clear c27
                          by_cases c28 : (x7_3.length : Int) = 0
                          · rw [if_pos c28] at H
                            exact absurd H (by simp)
                          · rw [if_neg c28] at H
                            have c28b0 : ((x7_3.length : Int) == 0) = false := beq_eq_false_iff_ne.mpr c28
                            have c28b1 : ((x7_3.length : Int) != 0) = true := bne_iff_ne.mpr c28
                            have c28b2 : ¬ (x7_3 = []) := fun h_ => c28 (by rw [h_]; rfl)
                            by_cases c29 : 0 ≤ x8_3
                            · rw [if_pos c29] at H
                              have c29b0 : decide (0 ≤ x8_3) = true := decide_eq_true c29
                              clear c29
                              replace H := Option.bind_eq_some_iff.mp H
                              obtain ⟨t165, A300, H⟩ := H
                              replace H : (if 0 ≤ t165 then (if t165 < (x7_3.length : Int) then (if 0 ≤ (Int.tmod x8_3 (x7_3.length : Int)) then (if (Int.tmod x8_3 (x7_3.length : Int)) < (x7_3.length : Int) then (ostiarylaw22_SetsTurned.l1 k3 l0 l1 t151 ((x7_3.set ((Int.tmod x8_3 (x7_3.length : Int)) : Int).toNat (⟨(rd_T39 x7_3 t165).f0, (rd_T39 x7_3 t165).f1, (rd_T39 x7_3 t165).f2, (rd_T39 x7_3 t165).f3, (rd_T39 x7_3 t165).f4⟩ : S39)).set (t165 : Int).toNat (⟨(rd_T39 x7_3 (Int.tmod x8_3 (x7_3.length : Int))).f0, (rd_T39 x7_3 (Int.tmod x8_3 (x7_3.length : Int))).f1, (rd_T39 x7_3 (Int.tmod x8_3 (x7_3.length : Int))).f2, (rd_T39 x7_3 (Int.tmod x8_3 (x7_3.length : Int))).f3, (rd_T39 x7_3 (Int.tmod x8_3 (x7_3.length : Int))).f4⟩ : S39)) (wrap64 (x8_3 + 1))) else (none)) else (none)) else (none)) else (none)) = some r := H
                              have A30 := Aside0.mk A300
                              clear A300
                              by_cases c31 : 0 ≤ t165
                              · rw [if_pos c31] at H
                                have c31b0 : decide (0 ≤ t165) = true := decide_eq_true c31
                                clear c31
                                by_cases c32 : t165 < (x7_3.length : Int)
                                · rw [if_pos c32] at H
                                  have c32b0 : decide (t165 < (x7_3.length : Int)) = true := decide_eq_true c32
                                  clear c32
                                  obtain ⟨ji33, hji33⟩ : ∃ j_ : Int, (Int.tmod x8_3 (x7_3.length : Int)) = j_ := ⟨_, rfl⟩
                                  replace H : (if 0 ≤ (ji33) then (if (ji33) < (x7_3.length : Int) then (ostiarylaw22_SetsTurned.l1 k3 l0 l1 t151 ((x7_3.set ((ji33) : Int).toNat (⟨(rd_T39 x7_3 t165).f0, (rd_T39 x7_3 t165).f1, (rd_T39 x7_3 t165).f2, (rd_T39 x7_3 t165).f3, (rd_T39 x7_3 t165).f4⟩ : S39)).set (t165 : Int).toNat (⟨(rd_T39 x7_3 (ji33)).f0, (rd_T39 x7_3 (ji33)).f1, (rd_T39 x7_3 (ji33)).f2, (rd_T39 x7_3 (ji33)).f3, (rd_T39 x7_3 (ji33)).f4⟩ : S39)) (wrap64 (x8_3 + 1))) else (none)) else (none)) = some r := by first | (rw [hji33] at H; exact H) | (simp only [hji33] at H ⊢; exact H)
                                  (try rw [hji33] at A30)
                                  by_cases c34 : 0 ≤ (ji33)
                                  · rw [if_pos c34] at H
                                    have c34b0 : decide (0 ≤ (ji33)) = true := decide_eq_true c34
                                    clear c34
                                    by_cases c35 : (ji33) < (x7_3.length : Int)
                                    · rw [if_pos c35] at H
                                      have c35b0 : decide ((ji33) < (x7_3.length : Int)) = true := decide_eq_true c35
                                      clear c35
                                      obtain ⟨y168, hy168⟩ : ∃ y_ : List (S39), y_ = (x7_3.set ((ji33) : Int).toNat (⟨(rd_T39 x7_3 t165).f0, (rd_T39 x7_3 t165).f1, (rd_T39 x7_3 t165).f2, (rd_T39 x7_3 t165).f3, (rd_T39 x7_3 t165).f4⟩ : S39)) := ⟨_, rfl⟩
                                      replace H : (ostiarylaw22_SetsTurned.l1 k3 l0 l1 t151 (y168.set (t165 : Int).toNat (⟨(rd_T39 x7_3 (ji33)).f0, (rd_T39 x7_3 (ji33)).f1, (rd_T39 x7_3 (ji33)).f2, (rd_T39 x7_3 (ji33)).f3, (rd_T39 x7_3 (ji33)).f4⟩ : S39)) (wrap64 (x8_3 + 1))) = some r := by first | (rw [hy168]; with_reducible exact H) | (have H2_ := (Option.bind_some _ _).symm.trans H; rw [hy168]; with_reducible exact H2_) | (have H2_ := (Option.bind_some _ _).symm.trans H; with_reducible exact H2_) | with_reducible exact H | (rw [hy168]; exact H) | exact H
                                      have Ny168 := Aside0.mk hy168
                                      clear hy168
                                      obtain ⟨y169, hy169⟩ : ∃ y_ : List (S39), y_ = (y168.set (t165 : Int).toNat (⟨(rd_T39 x7_3 (ji33)).f0, (rd_T39 x7_3 (ji33)).f1, (rd_T39 x7_3 (ji33)).f2, (rd_T39 x7_3 (ji33)).f3, (rd_T39 x7_3 (ji33)).f4⟩ : S39)) := ⟨_, rfl⟩
                                      replace H : (ostiarylaw22_SetsTurned.l1 k3 l0 l1 t151 y169 (wrap64 (x8_3 + 1))) = some r := by first | (rw [hy169]; with_reducible exact H) | (have H2_ := (Option.bind_some _ _).symm.trans H; rw [hy169]; with_reducible exact H2_) | (have H2_ := (Option.bind_some _ _).symm.trans H; with_reducible exact H2_) | with_reducible exact H | (rw [hy169]; exact H) | exact H
                                      have Ny169 := Aside0.mk hy169
                                      clear hy169
                                      have H' := Aside0.mk H
                                      clear H
                                      obtain ⟨Ao38, co38, eo38⟩ := Kd.R_slice HO_7.out
                                      subst eo38
                                      try go_wp2
                                      have n0_ := Aside0.mk (Kd.R_drew HO_7.out)
                                      have n1_ := Aside0.mk (below_drew1 HB.out)
                                      clear HO_7
                                      clear HB
                                      have HO_7 := n0_
                                      have HB := n1_
                                      clear n0_ n1_
                                      have p164 : 0 ≤ (x8_3 : Int) := of_decide_eq_true (by first | (with_reducible assumption) | assumption)
                                      have q164 : x8_3 < (l1.length : Int) := of_decide_eq_true (by first | (with_reducible assumption) | assumption)
                                      obtain ⟨ad164, e164, hx164_0⟩ := Kd.at_int HR1.out x8_3 p164 q164
                                      have hw164_0 := hx164_0
                                      cases e164
                                      replace hx164_0 := (HB.out.cell (World.block_lt_of_cell? w _ hx164_0)).trans hx164_0
                                      replace p164 := eq_true p164
                                      replace q164 := eq_true q164
                                      refine start_ (n := 13) (S := fun w' => w'.cell? (ad164.add (x8_3).toNat) = some (.int .i64 (rd l1 x8_3))) (ds := []) #[false, false, false, false, false, false, false, false, false, false, false, false, false] (by kernel_rfl) rfl rfl (((HB.out.cell (World.block_lt_of_cell? w _ hw164_0)).trans hw164_0)) (fun hHeld => ?_); refine with_tabW ostiarylaw22_SetsTurned.tab13 ostiarylaw22_SetsTurned.bits13 (fun HT_ HW_ => ?_)
                                      generalize wr.drew = w39 at HO_7 HB hx164_0 hHeld ⊢
                                      refine pure_ (i := 0) (N := some 55) (v := ?_) (a' := ?_) #[true, false, false, false, false, false, false, false, false, false, false, false, false] rfl rfl (any_of HT_.out (by kernel_rfl)) (fun _ _ _ h => h) (Or.inl ⟨by rfl, ?_⟩) ?_ ?_
                                      rotate_left
                                      · intro w'
                                        go_simp
                                        with_reducible rfl
                                      rotate_left
                                      · simp only [Act.put, List.setIfInBounds_toArray, List.set_cons_zero, List.set_cons_succ, i64_w, i32_w]
                                        rfl
                                      refine pure_ (i := 1) (N := some 56) (v := ?_) (a' := ?_) #[true, true, false, false, false, false, false, false, false, false, false, false, false] rfl rfl (any_of HT_.out (by kernel_rfl)) (fun _ _ _ h => h) (Or.inl ⟨by rfl, ?_⟩) ?_ ?_
                                      rotate_left
                                      · intro w'
                                        go_simp
                                        with_reducible rfl
                                      rotate_left
                                      · simp only [Act.put, List.setIfInBounds_toArray, List.set_cons_zero, List.set_cons_succ, i64_w, i32_w]
                                        rfl
                                      refine pure_ (i := 2) (N := some 57) (v := ?_) (a' := ?_) #[true, true, true, false, false, false, false, false, false, false, false, false, false] rfl rfl (any_of HT_.out (by kernel_rfl)) (fun _ _ _ h => h) (Or.inl ⟨by rfl, ?_⟩) ?_ ?_
                                      rotate_left
                                      · intro w'
                                        go_simp
                                        with_reducible rfl
                                      rotate_left
                                      · simp only [Act.put, List.setIfInBounds_toArray, List.set_cons_zero, List.set_cons_succ, i64_w, i32_w]
                                        rfl
                                      refine pure_ (i := 3) (N := some 58) (v := ?_) (a' := ?_) #[true, true, true, true, false, false, false, false, false, false, false, false, false] rfl rfl (any_of HT_.out (by kernel_rfl)) (fun _ _ _ h => h) (Or.inl ⟨by rfl, ?_⟩) ?_ ?_
                                      rotate_left
                                      · intro w'
                                        go_simp
                                        with_reducible rfl
                                      rotate_left
                                      · simp only [Act.put, List.setIfInBounds_toArray, List.set_cons_zero, List.set_cons_succ, i64_w, i32_w]
                                        rfl
                                      refine pure_ (i := 4) (N := some 59) (v := ?_) (a' := ?_) #[true, true, true, true, true, false, false, false, false, false, false, false, false] rfl rfl (any_of HT_.out (by kernel_rfl)) (fun _ _ _ h => h) (Or.inl ⟨by rfl, ?_⟩) ?_ ?_
                                      rotate_left
                                      · intro w'
                                        go_simp
                                        with_reducible rfl
                                      rotate_left
                                      · simp only [Act.put, List.setIfInBounds_toArray, List.set_cons_zero, List.set_cons_succ, i64_w, i32_w]
                                        rfl
                                      refine pure_ (i := 5) (N := some 60) (v := ?_) (a' := ?_) #[true, true, true, true, true, true, false, false, false, false, false, false, false] rfl rfl (any_of HT_.out (by kernel_rfl)) (fun _ _ _ h => h) (Or.inl ⟨by rfl, ?_⟩) ?_ ?_
                                      rotate_left
                                      · intro w'
                                        go_simp
                                        with_reducible rfl
                                      rotate_left
                                      · simp only [Act.put, List.setIfInBounds_toArray, List.set_cons_zero, List.set_cons_succ, i64_w, i32_w]
                                        rfl
                                      refine pure_ (i := 6) (N := some 61) (v := ?_) (a' := ?_) #[true, true, true, true, true, true, true, false, false, false, false, false, false] rfl rfl (any_of HT_.out (by kernel_rfl)) (fun _ _ _ h => h) (Or.inl ⟨by rfl, ?_⟩) ?_ ?_
                                      rotate_left
                                      · intro w'
                                        go_simp
                                        with_reducible rfl
                                      rotate_left
                                      · simp only [Act.put, List.setIfInBounds_toArray, List.set_cons_zero, List.set_cons_succ, i64_w, i32_w]
                                        rfl
                                      refine pure_ (i := 8) (N := some 63) (v := ?_) (a' := ?_) #[true, true, true, true, true, true, true, false, true, false, false, false, false] rfl rfl (any_of HT_.out (by kernel_rfl)) (fun _ _ _ h => h) (Or.inl ⟨by rfl, ?_⟩) ?_ ?_
                                      rotate_left
                                      · intro w'
                                        go_simp
                                        with_reducible rfl
                                      rotate_left
                                      · simp only [Act.put, List.setIfInBounds_toArray, List.set_cons_zero, List.set_cons_succ, i64_w, i32_w]
                                        rfl
                                      refine pure_ (i := 9) (N := some 64) (v := ?_) (a' := ?_) #[true, true, true, true, true, true, true, false, true, true, false, false, false] rfl rfl (any_of HT_.out (by kernel_rfl)) (fun _ _ _ h => h) (Or.inl ⟨by rfl, ?_⟩) ?_ ?_
                                      rotate_left
                                      · intro w'
                                        go_simp
                                        with_reducible rfl
                                      rotate_left
                                      · simp only [Act.put, List.setIfInBounds_toArray, List.set_cons_zero, List.set_cons_succ, i64_w, i32_w]
                                        rfl
                                      refine take_ (i := 7) (N := some 62) (v := ?_) (a' := ?_) #[true, true, true, true, true, true, true, true, true, true, false, false, false] rfl rfl (take_ofW HT_.out HW_.out (by kernel_rfl)) (fun _ _ _ h => h) (Or.inl ⟨by rfl, ?_⟩) hHeld ?_ ?_
                                      rotate_left
                                      · intro w' s0
                                        go_simp
                                        with_reducible rfl
                                      rotate_left
                                      · simp only [Act.put, List.setIfInBounds_toArray, List.set_cons_zero, List.set_cons_succ, i64_w, i32_w]
                                        rfl
                                      refine one_ (i := 10) (N := some 65) #[true, true, true, true, true, true, true, true, true, true, true, false, false] rfl rfl (one_of HT_.out (by kernel_rfl)) (by decide) (fun K hK => ?_)
                                      refine goes_ Try.func26 (by kernel_rfl) rfl #[.int .i64 (rd l1 x8_3), .int .i64 (x7_3.length : Int)] (by rfl) rfl rfl (by (try simp only [List.map_toArray, List.map_cons, List.map_nil]); first | done | rfl | (simp only [List.length_drop, List.length_take]; rfl)) ?_
                                      with_reducible refine (ostiarykit_Pick.calls (rd l1 x8_3) (x7_3.length : Int) t165 _ A30.out).mono ?_
                                      rintro e w' ⟨rfl, ⟨nd, rfl⟩⟩
                                      refine ⟨_, rfl, ?_⟩
                                      refine hK.out _ _ (((HB.out.cell (World.block_lt_of_cell? w _ hw164_0)).trans hw164_0)) (fun hHeld => ?_)
                                      clear hK K
                                      refine norm_ (a' := ?_) ?_ ?_
                                      rotate_left
                                      · show Act.put _ (some 65) _ = _
                                        simp only [Act.put, List.setIfInBounds_toArray, List.set_cons_zero, List.set_cons_succ, i64_w, i32_w]
                                        rfl
                                      refine pure_ (i := 11) (N := some 9) (v := ?_) (a' := ?_) #[true, true, true, true, true, true, true, true, true, true, true, true, false] rfl rfl (any_of HT_.out (by kernel_rfl)) (fun _ _ _ h => h) (Or.inl ⟨by rfl, ?_⟩) ?_ ?_
                                      rotate_left
                                      · intro w'
                                        go_simp
                                        with_reducible rfl
                                      rotate_left
                                      · simp only [Act.put, List.setIfInBounds_toArray, List.set_cons_zero, List.set_cons_succ, i64_w, i32_w]
                                        rfl
                                      refine pure_ (i := 12) (N := some 10) (v := ?_) (a' := ?_) #[true, true, true, true, true, true, true, true, true, true, true, true, true] rfl rfl (any_of HT_.out (by kernel_rfl)) (fun _ _ _ h => h) (Or.inl ⟨by rfl, ?_⟩) ?_ ?_
                                      rotate_left
                                      · intro w'
                                        go_simp
                                        with_reducible rfl
                                      rotate_left
                                      · simp only [Act.put, List.setIfInBounds_toArray, List.set_cons_zero, List.set_cons_succ, i64_w, i32_w]
                                        rfl
                                      refine done_ (done_of HT_.out (by kernel_rfl)) ?_
                                      try go_wp2
                                      (try (rw [drewN_self w39]; generalize hq_ : World.drewN w39 _ = w39; have n0_ : Aside0 (Kd.R k39 39 w39 w.heap.size (fun _ => True) (.slice Ao38 x7_3.length co38) x7_3) := ⟨by rw [← hq_]; exact (by (with_reducible repeat (first | apply Kd.R_alloc | apply Kd.R_drewN | apply Kd.R_drew)); exact HO_7.out)⟩; have n1_ : Aside0 (Below w.heap.size w w39) := ⟨by rw [← hq_]; exact (by repeat (first | (with_reducible first | exact HB.out | apply below_alloc | apply pw_below_drewN | apply below_drew1) | exact HB.out))⟩; clear HO_7 HB hq_; have HO_7 := n0_; have HB := n1_; clear n0_ n1_))
                                      have n0_ := Aside0.mk (Kd.R_drew HO_7.out)
                                      have n1_ := Aside0.mk (below_drew1 HB.out)
                                      clear HO_7
                                      clear HB
                                      have HO_7 := n0_
                                      have HB := n1_
                                      clear n0_ n1_
                                      have p166 : 0 ≤ (t165 : Int) := of_decide_eq_true (by first | (with_reducible assumption) | assumption)
                                      have q166 : t165 < (x7_3.length : Int) := of_decide_eq_true (by first | (with_reducible assumption) | assumption)
                                      obtain ⟨ad166, e166, hx166_0, hx166_1, hx166_2, hx166_3, hx166_4⟩ := at_T39 (Kd.R_reads' HO_7.out).2.2 t165 p166 q166
                                      cases e166
                                      replace p166 := eq_true p166
                                      replace q166 := eq_true q166
                                      have p167 : 0 ≤ ((ji33) : Int) := of_decide_eq_true (by first | (with_reducible assumption) | assumption)
                                      have q167 : (ji33) < (x7_3.length : Int) := of_decide_eq_true (by first | (with_reducible assumption) | assumption)
                                      obtain ⟨ad167, e167, hx167_0, hx167_1, hx167_2, hx167_3, hx167_4⟩ := at_T39 (Kd.R_reads' HO_7.out).2.2 (ji33) p167 q167
                                      obtain rfl : ad166 = ad167 := (by injection e167)
                                      replace p167 := eq_true p167
                                      replace q167 := eq_true q167
                                      have p36 : 0 ≤ ((ji33) : Int) := of_decide_eq_true (by first | (with_reducible assumption) | assumption)
                                      have q36 : ((ji33) : Int) < ((x7_3.length : Int) : Int) := of_decide_eq_true (by first | (with_reducible assumption) | assumption)
                                      obtain ⟨go36, co36, eo36, gb36, gl36, cl36, HG36⟩ := Kd.R_form HO_7.out (by omega)
                                      (first | cases eo36 | (injection eo36 with ea_ en_ ec_; (first | subst ea_ | (injection ea_ with ea_; subst ea_)); subst ec_; clear en_))
                                      have GB36 := Aside0.mk gb36
                                      have GG36 := Aside0.mk HG36
                                      clear gb36 gl36 HG36
                                      (first | simp only [add_plain] at hx166_0 | skip)
                                      (first | simp only [add_plain] at hx166_1 | skip)
                                      (first | simp only [add_plain] at hx166_2 | skip)
                                      (first | simp only [add_plain] at hx166_3 | skip)
                                      (first | simp only [add_plain] at hx166_4 | skip)
                                      (first | simp only [add_plain] at hx167_0 | skip)
                                      (first | simp only [add_plain] at hx167_1 | skip)
                                      (first | simp only [add_plain] at hx167_2 | skip)
                                      (first | simp only [add_plain] at hx167_3 | skip)
                                      (first | simp only [add_plain] at hx167_4 | skip)
                                      obtain ⟨ce36, hcl36, hM36, hcc36, hfr36⟩ := Kd.R_elem HO_7.out z39 ((ji33) : Int) p36 q36
                                      obtain rfl := k39_openM hM36
                                      have hx36_0 : World.cell? _ ⟨go36, ((ji33) : Int).toNat * 5, none⟩ = some (.string ((rd_T39 x7_3 (ji33)).f0)) := hcc36 0 _ rfl
                                      have hx36_1 : World.cell? _ ⟨go36, ((ji33) : Int).toNat * 5 + 1, none⟩ = some (.int .i64 ((rd_T39 x7_3 (ji33)).f1)) := hcc36 1 _ rfl
                                      have hx36_2 : World.cell? _ ⟨go36, ((ji33) : Int).toNat * 5 + 2, none⟩ = some (.int .i64 ((rd_T39 x7_3 (ji33)).f2)) := hcc36 2 _ rfl
                                      have hx36_3 : World.cell? _ ⟨go36, ((ji33) : Int).toNat * 5 + 3, none⟩ = some (.int .i64 ((rd_T39 x7_3 (ji33)).f3)) := hcc36 3 _ rfl
                                      have hx36_4 : World.cell? _ ⟨go36, ((ji33) : Int).toNat * 5 + 4, none⟩ = some (.string ((rd_T39 x7_3 (ji33)).f4)) := hcc36 4 _ rfl
                                      have hf36_0 : World.frozen? _ ⟨go36, ((ji33) : Int).toNat * 5, none⟩ = false := hfr36 0
                                      have hf36_1 : World.frozen? _ ⟨go36, ((ji33) : Int).toNat * 5 + 1, none⟩ = false := hfr36 1
                                      have hf36_2 : World.frozen? _ ⟨go36, ((ji33) : Int).toNat * 5 + 2, none⟩ = false := hfr36 2
                                      have hf36_3 : World.frozen? _ ⟨go36, ((ji33) : Int).toNat * 5 + 3, none⟩ = false := hfr36 3
                                      have hf36_4 : World.frozen? _ ⟨go36, ((ji33) : Int).toNat * 5 + 4, none⟩ = false := hfr36 4
                                      clear hcl36 hcc36 hfr36 hM36
                                      replace p36 := eq_true p36
                                      replace q36 := eq_true q36
                                      obtain ⟨ce41, hcl41, hM41, hcc41, hfr41⟩ := Kd.R_elem HO_7.out z39 ((ji33) : Int) (of_decide_eq_true (by first | (with_reducible assumption) | assumption)) (by have h_ : ((ji33) : Int) < ((x7_3.length : Int) : Int) := of_decide_eq_true (by first | (with_reducible assumption) | assumption); first | exact h_ | (have e_ := (Kd.R_reads' HO_7.out).1; omega) | simpa using h_)
                                      obtain rfl := k39_openM hM41
                                      have HP41 := (Kd.R_seg HO_7.out ((ji33) : Int) (of_decide_eq_true (by first | (with_reducible assumption) | assumption)) (by have h_ : ((ji33) : Int) < ((x7_3.length : Int) : Int) := of_decide_eq_true (by first | (with_reducible assumption) | assumption); first | exact h_ | (have e_ := (Kd.R_reads' HO_7.out).1; omega) | simpa using h_) (seg := [.string ((rd_T39 x7_3 t165).f0), .int .i64 ((rd_T39 x7_3 t165).f1), .int .i64 ((rd_T39 x7_3 t165).f2), .int .i64 ((rd_T39 x7_3 t165).f3), .string ((rd_T39 x7_3 t165).f4)]) (j := 0) hcl41 hcc41 (show 5 ≤ 5 from by decide) (x' := (⟨(rd_T39 x7_3 t165).f0, (rd_T39 x7_3 t165).f1, (rd_T39 x7_3 t165).f2, (rd_T39 x7_3 t165).f3, (rd_T39 x7_3 t165).f4⟩ : S39)) (k39_mkM _ _ _ (⟨(rd_T39 x7_3 t165).f0, (rd_T39 x7_3 t165).f1, (rd_T39 x7_3 t165).f2, (rd_T39 x7_3 t165).f3, (rd_T39 x7_3 t165).f4⟩ : S39) ) (fun _ hk => hk)).1
                                      rw [← Ny168.out] at HP41
                                      have HQ41 := Aside0.mk HP41
                                      clear hcl41 hcc41 hfr41 hM41 HP41
                                      have p37 : 0 ≤ (t165 : Int) := of_decide_eq_true (by first | (with_reducible assumption) | assumption)
                                      have q37 : (t165 : Int) < ((x7_3.length : Int) : Int) := of_decide_eq_true (by first | (with_reducible assumption) | assumption)
                                      obtain ⟨ce37, hcl37, hM37, hcc37, hfr37⟩ := Kd.R_elem HQ41.out z39 (t165 : Int) p37 q37
                                      obtain rfl := k39_openM hM37
                                      have hx37_0 : World.cell? _ ⟨go36, (t165 : Int).toNat * 5, none⟩ = some (.string ((rd_T39 y168 t165).f0)) := hcc37 0 _ rfl
                                      have hx37_1 : World.cell? _ ⟨go36, (t165 : Int).toNat * 5 + 1, none⟩ = some (.int .i64 ((rd_T39 y168 t165).f1)) := hcc37 1 _ rfl
                                      have hx37_2 : World.cell? _ ⟨go36, (t165 : Int).toNat * 5 + 2, none⟩ = some (.int .i64 ((rd_T39 y168 t165).f2)) := hcc37 2 _ rfl
                                      have hx37_3 : World.cell? _ ⟨go36, (t165 : Int).toNat * 5 + 3, none⟩ = some (.int .i64 ((rd_T39 y168 t165).f3)) := hcc37 3 _ rfl
                                      have hx37_4 : World.cell? _ ⟨go36, (t165 : Int).toNat * 5 + 4, none⟩ = some (.string ((rd_T39 y168 t165).f4)) := hcc37 4 _ rfl
                                      have hf37_0 : World.frozen? _ ⟨go36, (t165 : Int).toNat * 5, none⟩ = false := hfr37 0
                                      have hf37_1 : World.frozen? _ ⟨go36, (t165 : Int).toNat * 5 + 1, none⟩ = false := hfr37 1
                                      have hf37_2 : World.frozen? _ ⟨go36, (t165 : Int).toNat * 5 + 2, none⟩ = false := hfr37 2
                                      have hf37_3 : World.frozen? _ ⟨go36, (t165 : Int).toNat * 5 + 3, none⟩ = false := hfr37 3
                                      have hf37_4 : World.frozen? _ ⟨go36, (t165 : Int).toNat * 5 + 4, none⟩ = false := hfr37 4
                                      clear hcl37 hcc37 hfr37 hM37
                                      replace p37 := eq_true p37
                                      replace q37 := eq_true q37
                                      obtain ⟨ce42, hcl42, hM42, hcc42, hfr42⟩ := Kd.R_elem HQ41.out z39 (t165 : Int) (of_decide_eq_true (by first | (with_reducible assumption) | assumption)) (by have h_ : (t165 : Int) < ((x7_3.length : Int) : Int) := of_decide_eq_true (by first | (with_reducible assumption) | assumption); first | exact h_ | (have e_ := (Kd.R_reads' HO_7.out).1; omega) | simpa using h_)
                                      obtain rfl := k39_openM hM42
                                      have HP42 := (Kd.R_seg HQ41.out (t165 : Int) (of_decide_eq_true (by first | (with_reducible assumption) | assumption)) (by have h_ : (t165 : Int) < ((x7_3.length : Int) : Int) := of_decide_eq_true (by first | (with_reducible assumption) | assumption); first | exact h_ | (have e_ := (Kd.R_reads' HO_7.out).1; omega) | simpa using h_) (seg := [.string ((rd_T39 x7_3 (ji33)).f0), .int .i64 ((rd_T39 x7_3 (ji33)).f1), .int .i64 ((rd_T39 x7_3 (ji33)).f2), .int .i64 ((rd_T39 x7_3 (ji33)).f3), .string ((rd_T39 x7_3 (ji33)).f4)]) (j := 0) hcl42 hcc42 (show 5 ≤ 5 from by decide) (x' := (⟨(rd_T39 x7_3 (ji33)).f0, (rd_T39 x7_3 (ji33)).f1, (rd_T39 x7_3 (ji33)).f2, (rd_T39 x7_3 (ji33)).f3, (rd_T39 x7_3 (ji33)).f4⟩ : S39)) (k39_mkM _ _ _ (⟨(rd_T39 x7_3 (ji33)).f0, (rd_T39 x7_3 (ji33)).f1, (rd_T39 x7_3 (ji33)).f2, (rd_T39 x7_3 (ji33)).f3, (rd_T39 x7_3 (ji33)).f4⟩ : S39) ) (fun _ hk => hk)).1
                                      rw [← Ny169.out] at HP42
                                      have HQ42 := Aside0.mk HP42
                                      clear hcl42 hcc42 hfr42 hM42 HP42
                                      refine start_ (n := 16) (S := fun w' => w'.cell? ⟨go36, ((t165).toNat * 5), none⟩ = some (.string ((rd_T39 x7_3 t165).f0)) ∧ w'.cell? ⟨go36, ((t165).toNat * 5) + 1, none⟩ = some (.int .i64 ((rd_T39 x7_3 t165).f1)) ∧ w'.cell? ⟨go36, ((t165).toNat * 5) + 2, none⟩ = some (.int .i64 ((rd_T39 x7_3 t165).f2)) ∧ w'.cell? ⟨go36, ((t165).toNat * 5) + 3, none⟩ = some (.int .i64 ((rd_T39 x7_3 t165).f3)) ∧ w'.cell? ⟨go36, ((t165).toNat * 5) + 4, none⟩ = some (.string ((rd_T39 x7_3 t165).f4)) ∧ w'.cell? ⟨go36, (((ji33)).toNat * 5), none⟩ = some (.string ((rd_T39 x7_3 (ji33)).f0)) ∧ w'.cell? ⟨go36, (((ji33)).toNat * 5) + 1, none⟩ = some (.int .i64 ((rd_T39 x7_3 (ji33)).f1)) ∧ w'.cell? ⟨go36, (((ji33)).toNat * 5) + 2, none⟩ = some (.int .i64 ((rd_T39 x7_3 (ji33)).f2)) ∧ w'.cell? ⟨go36, (((ji33)).toNat * 5) + 3, none⟩ = some (.int .i64 ((rd_T39 x7_3 (ji33)).f3)) ∧ w'.cell? ⟨go36, (((ji33)).toNat * 5) + 4, none⟩ = some (.string ((rd_T39 x7_3 (ji33)).f4))) (ds := [13, 15]) #[false, false, false, false, false, false, false, false, false, false, false, false, false, false, false, false] (by kernel_rfl) rfl rfl ⟨hx166_0, hx166_1, hx166_2, hx166_3, hx166_4, hx167_0, hx167_1, hx167_2, hx167_3, hx167_4⟩ (fun hHeld => ?_); refine with_tabW ostiarylaw22_SetsTurned.tab14 ostiarylaw22_SetsTurned.bits14 (fun HT_ HW_ => ?_)
                                      obtain ⟨ceq, hclq, hMq, hccq, hfrq⟩ := Kd.R_elem HO_7.out z39 (t165 : Int) (of_decide_eq_true (by first | (with_reducible assumption) | assumption)) (of_decide_eq_true (by first | (with_reducible assumption) | assumption))
                                      have hfq0 : World.frozen? _ ⟨go36, (t165 : Int).toNat * 5, none⟩ = false := hfrq 0
                                      have hfq1 : World.frozen? _ ⟨go36, (t165 : Int).toNat * 5 + 1, none⟩ = false := hfrq 1
                                      have hfq2 : World.frozen? _ ⟨go36, (t165 : Int).toNat * 5 + 2, none⟩ = false := hfrq 2
                                      have hfq3 : World.frozen? _ ⟨go36, (t165 : Int).toNat * 5 + 3, none⟩ = false := hfrq 3
                                      have hfq4 : World.frozen? _ ⟨go36, (t165 : Int).toNat * 5 + 4, none⟩ = false := hfrq 4
                                      clear hclq hMq hccq hfrq
                                      generalize w39.drew = w40 at HO_7 HB GG36 HQ41 HQ42 hf36_0 hf36_1 hf36_2 hf36_3 hf36_4 hf37_0 hf37_1 hf37_2 hf37_3 hf37_4 hx166_0 hx166_1 hx166_2 hx166_3 hx166_4 hx167_0 hx167_1 hx167_2 hx167_3 hx167_4 hx36_0 hx36_1 hx36_2 hx36_3 hx36_4 hx37_0 hx37_1 hx37_2 hx37_3 hx37_4 hHeld ⊢ hfq0 hfq1 hfq2 hfq3 hfq4
                                      have sw0 := swap_cell (a := ji33.toNat * 5) hx166_0
                                      have sw1 := swap_cell (a := ji33.toNat * 5 + 1) (swap_far (a := ji33.toNat * 5) (u := .string (rd_T39 x7_3 t165).f0) hx166_1 (by omega))
                                      have sw2 := swap_cell (a := ji33.toNat * 5 + 2) (swap_far (a := ji33.toNat * 5 + 1) (u := .int .i64 (rd_T39 x7_3 t165).f1) (swap_far (a := ji33.toNat * 5) (u := .string (rd_T39 x7_3 t165).f0) hx166_2 (by omega)) (by omega))
                                      have sw3 := swap_cell (a := ji33.toNat * 5 + 3) (swap_far (a := ji33.toNat * 5 + 2) (u := .int .i64 (rd_T39 x7_3 t165).f2) (swap_far (a := ji33.toNat * 5 + 1) (u := .int .i64 (rd_T39 x7_3 t165).f1) (swap_far (a := ji33.toNat * 5) (u := .string (rd_T39 x7_3 t165).f0) hx166_3 (by omega)) (by omega)) (by omega))
                                      have sw4 := swap_cell (a := ji33.toNat * 5 + 4) (swap_far (a := ji33.toNat * 5 + 3) (u := .int .i64 (rd_T39 x7_3 t165).f3) (swap_far (a := ji33.toNat * 5 + 2) (u := .int .i64 (rd_T39 x7_3 t165).f2) (swap_far (a := ji33.toNat * 5 + 1) (u := .int .i64 (rd_T39 x7_3 t165).f1) (swap_far (a := ji33.toNat * 5) (u := .string (rd_T39 x7_3 t165).f0) hx166_4 (by omega)) (by omega)) (by omega)) (by omega))
                                      refine pure_ (i := 0) (N := some 66) (v := ?_) (a' := ?_) #[true, false, false, false, false, false, false, false, false, false, false, false, false, false, false, false] rfl rfl (any_of HT_.out (by kernel_rfl)) (fun _ _ _ h => h) (Or.inl ⟨by rfl, ?_⟩) ?_ ?_
                                      rotate_left
                                      · intro w'
                                        go_simp
                                        with_reducible rfl
                                      rotate_left
                                      · simp only [Act.put, List.setIfInBounds_toArray, List.set_cons_zero, List.set_cons_succ, i64_w, i32_w]
                                        rfl
                                      refine pure_ (i := 1) (N := some 67) (v := ?_) (a' := ?_) #[true, true, false, false, false, false, false, false, false, false, false, false, false, false, false, false] rfl rfl (any_of HT_.out (by kernel_rfl)) (fun _ _ _ h => h) (Or.inl ⟨by rfl, ?_⟩) ?_ ?_
                                      rotate_left
                                      · intro w'
                                        go_simp
                                        with_reducible rfl
                                      rotate_left
                                      · simp only [Act.put, List.setIfInBounds_toArray, List.set_cons_zero, List.set_cons_succ, i64_w, i32_w]
                                        rfl
                                      refine pure_ (i := 2) (N := some 68) (v := ?_) (a' := ?_) #[true, true, true, false, false, false, false, false, false, false, false, false, false, false, false, false] rfl rfl (any_of HT_.out (by kernel_rfl)) (fun _ _ _ h => h) (Or.inl ⟨by rfl, ?_⟩) ?_ ?_
                                      rotate_left
                                      · intro w'
                                        go_simp
                                        with_reducible rfl
                                      rotate_left
                                      · simp only [Act.put, List.setIfInBounds_toArray, List.set_cons_zero, List.set_cons_succ, i64_w, i32_w]
                                        rfl
                                      refine pure_ (i := 3) (N := some 69) (v := ?_) (a' := ?_) #[true, true, true, true, false, false, false, false, false, false, false, false, false, false, false, false] rfl rfl (any_of HT_.out (by kernel_rfl)) (fun _ _ _ h => h) (Or.inl ⟨by rfl, ?_⟩) ?_ ?_
                                      rotate_left
                                      · intro w'
                                        go_simp
                                        with_reducible rfl
                                      rotate_left
                                      · simp only [Act.put, List.setIfInBounds_toArray, List.set_cons_zero, List.set_cons_succ, i64_w, i32_w]
                                        rfl
                                      refine pure_ (i := 4) (N := some 70) (v := ?_) (a' := ?_) #[true, true, true, true, true, false, false, false, false, false, false, false, false, false, false, false] rfl rfl (any_of HT_.out (by kernel_rfl)) (fun _ _ _ h => h) (Or.inl ⟨by rfl, ?_⟩) ?_ ?_
                                      rotate_left
                                      · intro w'
                                        go_simp
                                        with_reducible rfl
                                      rotate_left
                                      · simp only [Act.put, List.setIfInBounds_toArray, List.set_cons_zero, List.set_cons_succ, i64_w, i32_w]
                                        rfl
                                      refine pure_ (i := 5) (N := some 71) (v := ?_) (a' := ?_) #[true, true, true, true, true, true, false, false, false, false, false, false, false, false, false, false] rfl rfl (any_of HT_.out (by kernel_rfl)) (fun _ _ _ h => h) (Or.inl ⟨by rfl, ?_⟩) ?_ ?_
                                      rotate_left
                                      · intro w'
                                        go_simp
                                        with_reducible rfl
                                      rotate_left
                                      · simp only [Act.put, List.setIfInBounds_toArray, List.set_cons_zero, List.set_cons_succ, i64_w, i32_w]
                                        rfl
                                      refine pure_ (i := 6) (N := some 72) (v := ?_) (a' := ?_) #[true, true, true, true, true, true, true, false, false, false, false, false, false, false, false, false] rfl rfl (any_of HT_.out (by kernel_rfl)) (fun _ _ _ h => h) (Or.inl ⟨by rfl, ?_⟩) ?_ ?_
                                      rotate_left
                                      · intro w'
                                        go_simp
                                        with_reducible rfl
                                      rotate_left
                                      · simp only [Act.put, List.setIfInBounds_toArray, List.set_cons_zero, List.set_cons_succ, i64_w, i32_w]
                                        rfl
                                      refine pure_ (i := 8) (N := some 74) (v := ?_) (a' := ?_) #[true, true, true, true, true, true, true, false, true, false, false, false, false, false, false, false] rfl rfl (any_of HT_.out (by kernel_rfl)) (fun _ _ _ h => h) (Or.inl ⟨by rfl, ?_⟩) ?_ ?_
                                      rotate_left
                                      · intro w'
                                        go_simp
                                        with_reducible rfl
                                      rotate_left
                                      · simp only [Act.put, List.setIfInBounds_toArray, List.set_cons_zero, List.set_cons_succ, i64_w, i32_w]
                                        rfl
                                      refine pure_ (i := 9) (N := some 75) (v := ?_) (a' := ?_) #[true, true, true, true, true, true, true, false, true, true, false, false, false, false, false, false] rfl rfl (any_of HT_.out (by kernel_rfl)) (fun _ _ _ h => h) (Or.inl ⟨by rfl, ?_⟩) ?_ ?_
                                      rotate_left
                                      · intro w'
                                        go_simp
                                        with_reducible rfl
                                      rotate_left
                                      · simp only [Act.put, List.setIfInBounds_toArray, List.set_cons_zero, List.set_cons_succ, i64_w, i32_w]
                                        rfl
                                      refine pure_ (i := 10) (N := some 76) (v := ?_) (a' := ?_) #[true, true, true, true, true, true, true, false, true, true, true, false, false, false, false, false] rfl rfl (any_of HT_.out (by kernel_rfl)) (fun _ _ _ h => h) (Or.inl ⟨by rfl, ?_⟩) ?_ ?_
                                      rotate_left
                                      · intro w'
                                        go_simp
                                        with_reducible rfl
                                      rotate_left
                                      · simp only [Act.put, List.setIfInBounds_toArray, List.set_cons_zero, List.set_cons_succ, i64_w, i32_w]
                                        rfl
                                      refine take_ (i := 7) (N := some 73) (v := ?_) (a' := ?_) #[true, true, true, true, true, true, true, true, true, true, true, false, false, false, false, false] rfl rfl (take_ofW HT_.out HW_.out (by kernel_rfl)) (fun _ _ _ h => h) (Or.inl ⟨by rfl, ?_⟩) hHeld ?_ ?_
                                      rotate_left
                                      · rintro w' ⟨s0, s1, s2, s3, s4, s5, s6, s7, s8, s9⟩
                                        go_simp
                                        with_reducible rfl
                                      rotate_left
                                      · simp only [Act.put, List.setIfInBounds_toArray, List.set_cons_zero, List.set_cons_succ, i64_w, i32_w]
                                        rfl
                                      refine take_ (i := 11) (N := some 77) (v := ?_) (a' := ?_) #[true, true, true, true, true, true, true, true, true, true, true, true, false, false, false, false] rfl rfl (take_ofW HT_.out HW_.out (by kernel_rfl)) (fun _ _ _ h => h) (Or.inl ⟨by rfl, ?_⟩) hHeld ?_ ?_
                                      rotate_left
                                      · rintro w' ⟨s0, s1, s2, s3, s4, s5, s6, s7, s8, s9⟩
                                        go_simp
                                        with_reducible rfl
                                      rotate_left
                                      · simp only [Act.put, List.setIfInBounds_toArray, List.set_cons_zero, List.set_cons_succ, i64_w, i32_w]
                                        rfl
                                      refine pure_ (i := 12) (N := some 78) (v := ?_) (a' := ?_) #[true, true, true, true, true, true, true, true, true, true, true, true, true, false, false, false] rfl rfl (any_of HT_.out (by kernel_rfl)) (fun _ _ _ h => h) (Or.inl ⟨by rfl, ?_⟩) ?_ ?_
                                      rotate_left
                                      · intro w'
                                        go_simp
                                        with_reducible rfl
                                      rotate_left
                                      · simp only [Act.put, List.setIfInBounds_toArray, List.set_cons_zero, List.set_cons_succ, i64_w, i32_w]
                                        rfl
                                      refine last_ (i := 13) (N := none) #[true, true, true, true, true, true, true, true, true, true, true, true, true, true, false, false] rfl rfl (one_of HT_.out (by kernel_rfl)) (by decide) (fun K hK => ?_)
                                      refine skip_ (w1 := ?_) (by rfl) rfl ?_ ?_
                                      rotate_left
                                      · go_simp
                                        rfl
                                      refine hK.out _ _ ?_
                                      clear hK K
                                      refine pure_ (i := 14) (N := some 79) (v := ?_) (a' := ?_) #[true, true, true, true, true, true, true, true, true, true, true, true, true, true, true, false] rfl rfl (any_of HT_.out (by kernel_rfl)) (fun _ _ _ h => h) (Or.inl ⟨by rfl, ?_⟩) ?_ ?_
                                      rotate_left
                                      · intro w'
                                        go_simp
                                        with_reducible rfl
                                      rotate_left
                                      · simp only [Act.put, List.setIfInBounds_toArray, List.set_cons_zero, List.set_cons_succ, i64_w, i32_w]
                                        rfl
                                      refine last_ (i := 15) (N := none) #[true, true, true, true, true, true, true, true, true, true, true, true, true, true, true, true] rfl rfl (one_of HT_.out (by kernel_rfl)) (by decide) (fun K hK => ?_)
                                      refine skip_ (w1 := ?_) (by rfl) rfl ?_ ?_
                                      rotate_left
                                      · go_simp
                                        rfl
                                      refine hK.out _ _ ?_
                                      clear hK K
                                      refine done_ (done_of HT_.out (by kernel_rfl)) ?_
                                      try go_wp2
                                      go_roundg k3
                                      case measure => have := HJ3.out; have := HK2.out; have := HK3.out; omega
                                      case rel => exact ⟨(y169), (wrap64 (x8_3 + 1)), (by first | rfl | (simp; done) | (simp [*]; done)), H', ⟨by have := HJ3.out; have := HK2.out; have := HK3.out; omega⟩, ⟨by (with_reducible repeat (first | apply Kd.R_alloc | apply Kd.R_drewN | apply Kd.R_drew)); exact HQ42.out⟩, ⟨by repeat (first | (with_reducible first | exact HB.out | apply below_alloc | apply pw_below_drewN | apply below_drew1 | refine below_set ?_ GB36.out | refine below_set ?_ GB36.out | refine below_set ?_ GB36.out | refine below_set ?_ GB36.out | refine below_set ?_ GB36.out | refine below_set ?_ GB36.out | refine below_set ?_ GB36.out | refine below_set ?_ GB36.out | refine below_set ?_ GB36.out | refine below_set ?_ GB36.out) | exact HB.out)⟩⟩
                                    · rw [if_neg c35] at H
                                      exact absurd H (by simp)
                                  · rw [if_neg c34] at H
                                    exact absurd H (by simp)
                                · rw [if_neg c32] at H
                                  exact absurd H (by simp)
                              · rw [if_neg c31] at H
                                exact absurd H (by simp)
                            · rw [if_neg c29] at H
                              exact absurd H (by simp)
                        · rw [if_neg c27] at H
                          have c27b0 : decide (0 < (x7_3.length : Int)) = false := decide_eq_false c27
                          have c27b1 : decide (0 < x7_3.length) = false := decide_eq_false (by omega)
                          clear c27
                          have H' := Aside0.mk H
                          clear H
                          obtain ⟨Ao43, co43, eo43⟩ := Kd.R_slice HO_7.out
                          subst eo43
                          go_wp2
                          go_meet
                          case rel => exact ⟨_, (x7_3), H', ⟨by have := HJ3.out; have := HK2.out; have := HK3.out; first | omega | exact Nat.le_refl _⟩, ⟨by (with_reducible repeat (first | apply Kd.R_alloc | apply Kd.R_drewN | apply Kd.R_drew)); exact HO_7.out⟩, ⟨by repeat (first | (with_reducible first | exact HB.out | apply below_alloc | apply pw_below_drewN | apply below_drew1) | exact HB.out)⟩⟩
                      · rw [if_neg c26] at H
                        have c26b0 : decide (x8_3 < (l1.length : Int)) = false := decide_eq_false c26
                        clear c26
                        (first | rw [c26b0] | (simp only [i64_w, i32_w]; rw [c26b0]) | skip)
                        have H' := Aside0.mk H
                        clear H
                        go_wp2
                        go_meet
                        case rel => exact ⟨_, (x7_3), H', ⟨by have := HJ3.out; have := HK2.out; have := HK3.out; first | omega | exact Nat.le_refl _⟩, ⟨by (with_reducible repeat (first | apply Kd.R_alloc | apply Kd.R_drewN | apply Kd.R_drew)); exact HO_7.out⟩, ⟨by repeat (first | (with_reducible first | exact HB.out | apply below_alloc | apply pw_below_drewN | apply below_drew1) | exact HB.out)⟩⟩
                case rest =>
                  clear HC22
                  try clear c1
                  try clear p1
                  try clear q1
                  try clear hx1
                  try clear c2
                  try clear p2
                  try clear c3
                  try clear p3
                  try clear q3
                  try clear hx3
                  try clear hf3
                  try clear c4
                  try clear c5
                  try clear p6
                  try clear c7
                  try clear c8
                  try clear c9
                  try clear c9b0
                  try clear c10
                  try clear c10b0
                  try clear c12
                  try clear c12b0
                  try clear c12b1
                  try clear c15
                  try clear p15
                  try clear q15
                  try clear hx15
                  try clear c16
                  try clear p16
                  try clear q16
                  try clear hx16
                  try clear c21
                  try clear c25
                  try clear c26
                  try clear c26b0
                  try clear c27
                  try clear c27b0
                  try clear c27b1
                  try clear c28
                  try clear c28b0
                  try clear c28b1
                  try clear c28b2
                  try clear c29
                  try clear c29b0
                  try clear c31
                  try clear c31b0
                  try clear c32
                  try clear c32b0
                  try clear c34
                  try clear c34b0
                  try clear c35
                  try clear c35b0
                  try clear c36
                  try clear p36
                  try clear q36
                  try clear hx36
                  try clear hf36
                  try clear c37
                  try clear p37
                  try clear q37
                  try clear hx37
                  try clear hf37
                  try clear c41
                  try clear c42
                  try clear hx153_0
                  try clear hx153_1
                  try clear hx153_2
                  try clear hx153_3
                  try clear hx153_4
                  try clear hx164_0
                  try clear hx166_0
                  try clear hx166_1
                  try clear hx166_2
                  try clear hx166_3
                  try clear hx166_4
                  try clear hx167_0
                  try clear hx167_1
                  try clear hx167_2
                  try clear hx167_3
                  try clear hx167_4
                  try clear hx36_0
                  try clear hx36_1
                  try clear hx36_2
                  try clear hx36_3
                  try clear hx36_4
                  try clear hx37_0
                  try clear hx37_1
                  try clear hx37_2
                  try clear hx37_3
                  try clear hx37_4
                  try clear p1
                  try clear p15
                  try clear p153
                  try clear p164
                  try clear p166
                  try clear p167
                  try clear p2
                  try clear p36
                  try clear p37
                  try clear p6
                  try clear q1
                  try clear q15
                  try clear q153
                  try clear q164
                  try clear q166
                  try clear q167
                  try clear q36
                  try clear q37
                  obtain ⟨kq, x7_21, HA, HJ21, HO_7, HB⟩ := hcut
                  cases kq with
                  | zero => exact absurd HA.out (by simp [ostiarylaw22_SetsTurned.j3])
                  | succ kj21 =>
                    have H := HA.out
                    clear HA
                    simp only [ostiarylaw22_SetsTurned.j3] at H
                    replace H := Option.bind_eq_some_iff.mp H
                    obtain ⟨t170, A440, H⟩ := H
                    replace H : ((sets_Group.f x7_21).bind fun t173 => (if (t170.length : Int) = (t173.length : Int) then (ostiarylaw22_SetsTurned.l2 kj21 t151 t170 t173 0) else (some false))) = some r := H
                    have A44 := Aside0.mk A440
                    clear A440
                    replace H := Option.bind_eq_some_iff.mp H
                    obtain ⟨t173, A450, H⟩ := H
                    replace H : (if (t170.length : Int) = (t173.length : Int) then (ostiarylaw22_SetsTurned.l2 kj21 t151 t170 t173 0) else (some false)) = some r := H
                    have A45 := Aside0.mk A450
                    clear A450
                    by_cases c46 : (t170.length : Int) = (t173.length : Int)
                    · rw [if_pos c46] at H
                      have c46b0 : ((t170.length : Int) == (t173.length : Int)) = true := beq_iff_eq.mpr c46
                      have c46b1 : ((t170.length : Int) != (t173.length : Int)) = false := bne_eq_false_iff_eq.mpr c46
                      have c46b2 : (t170.length == t173.length) = true := by first | simpa using c46 | (simp at c46 ⊢; omega)
                      clear c46
                      have H' := Aside0.mk H
                      clear H
                      go_wp2_with (first | ((with_reducible refine gate_callee (f := 17) rfl ?_); refine goesL_ (some 81) rfl rfl Try.func17 (by kernel_rfl) rfl #[.slice A0 l0.length c0] rfl (by (try simp only [List.map_toArray, List.map_cons, List.map_nil]); first | done | rfl | (simp only [List.length_drop, List.length_take]; rfl)) ?_; (with_reducible refine (sets_Group.calls _ _ l0 t170 _ ?side1 ?side2 A44.out).mono ?_); (case side1 => repeat (first | exact (Kd.C_below HR0.out HB.out) | (with_reducible refine Kd.C_alloc ?_ _) | (with_reducible refine Kd.C_drewN ?_ _) | (with_reducible refine Kd.C_drew ?_))); (case side2 => exact HC0.out); rintro e w47 ⟨v171, rfl, ho0, hb⟩; refine ⟨_, rfl, ?_⟩; have n0_ := Aside0.mk (Kd.R_below (by (with_reducible repeat (first | apply Kd.R_alloc | apply Kd.R_drewN | apply Kd.R_drew)); exact HO_7.out) hb); have n1_ := Aside0.mk (Kd.S_lower ho0 (below_size (by repeat (first | (with_reducible first | exact HB.out | apply below_alloc | apply pw_below_drewN | apply below_drew1) | exact HB.out)))); have n2_ := Aside0.mk (below_step (by repeat (first | (with_reducible first | exact HB.out | apply below_alloc | apply pw_below_drewN | apply below_drew1) | exact HB.out)) hb); clear HO_7; clear HB; have HO_7 := n0_; have HO172 := n1_; have HB := n2_; clear n0_ n1_ n2_; (try clear hb); (try clear hb2); (try clear hk); (try clear hi); (try clear ho0); obtain ⟨Ao48, co48, eo48⟩ := Kd.R_slice HO_7.out; subst eo48) | ((with_reducible refine gate_callee (f := 17) rfl ?_); refine goesL_ (some 83) rfl rfl Try.func17 (by kernel_rfl) rfl #[.slice Ao48 x7_21.length co48] rfl (by (try simp only [List.map_toArray, List.map_cons, List.map_nil]); first | done | rfl | (simp only [List.length_drop, List.length_take]; rfl)) ?_; (with_reducible refine (sets_Group.calls _ _ x7_21 t173 _ ?side1 ?side2 A45.out).mono ?_); (case side1 => repeat (first | exact (Kd.R_reads' HO_7.out).2.2 | (with_reducible refine Kd.C_alloc ?_ _) | (with_reducible refine Kd.C_drewN ?_ _) | (with_reducible refine Kd.C_drew ?_))); (case side2 => exact (Kd.R_reads' HO_7.out).2.1); rintro e w49 ⟨v174, rfl, ho0, hb⟩; refine ⟨_, rfl, ?_⟩; have n0_ := Aside0.mk (Kd.R_below (by (with_reducible repeat (first | apply Kd.R_alloc | apply Kd.R_drewN | apply Kd.R_drew)); exact HO_7.out) hb); have n1_ := Aside0.mk (Kd.S_elder' (by (with_reducible repeat (first | apply Kd.S_alloc | apply Kd.S_drewN | apply Kd.S_drew)); exact HO172.out) (Kd.S_base ho0) hb); have n2_ := Aside0.mk (Kd.S_lower (Kd.S_new' ho0 (Kd.S_lt (by (with_reducible repeat (first | apply Kd.S_alloc | apply Kd.S_drewN | apply Kd.S_drew)); exact HO172.out))) (below_size (by repeat (first | (with_reducible first | exact HB.out | apply below_alloc | apply pw_below_drewN | apply below_drew1) | exact HB.out)))); have n3_ := Aside0.mk (below_step (by repeat (first | (with_reducible first | exact HB.out | apply below_alloc | apply pw_below_drewN | apply below_drew1) | exact HB.out)) hb); clear HO_7; clear HO172; clear HB; have HO_7 := n0_; have HO172 := n1_; have HO175 := n2_; have HB := n3_; clear n0_ n1_ n2_ n3_; (try clear hb); (try clear hb2); (try clear hk); (try clear hi); (try clear ho0); obtain ⟨Ao50, co50, eo50⟩ := Kd.S_slice HO172.out; subst eo50; obtain ⟨Ao51, co51, eo51⟩ := Kd.S_slice HO175.out; subst eo51))
                      go_loopg [13] kj21 (fun kq v13 w' => ∃ (x13_4 : Int), v13 = .int .i64 x13_4 ∧ Aside0 (ostiarylaw22_SetsTurned.l2 kq t151 t170 t173 x13_4 = some r) ∧ Aside0 (kq ≤ kj21) ∧ Aside0 (Kd.S k32 32 w' w.heap.size (fun k_ => some k_ ≠ ((.slice Ao51 t173.length co51) : Value).ownBlock) (.slice Ao50 t170.length co50) t170) ∧ Aside0 (Kd.S k32 32 w' w.heap.size (fun k_ => some k_ ≠ ((.slice Ao50 t170.length co50) : Value).ownBlock) (.slice Ao51 t173.length co51) t173) ∧ Aside0 (Below w.heap.size w w'))
                      case atStart => exact ⟨(0), (by first | rfl | (simp; done) | (simp [*]; done)), H', ⟨Nat.le_refl _⟩, ⟨by (with_reducible repeat (first | apply Kd.S_alloc | apply Kd.S_drewN | apply Kd.S_drew)); exact Kd.S_mono HO172.out (fun _ hk => hk.2)⟩, ⟨by (with_reducible repeat (first | apply Kd.S_alloc | apply Kd.S_drewN | apply Kd.S_drew)); exact Kd.S_mono HO175.out (fun _ hk => hk.2)⟩, ⟨by repeat (first | (with_reducible first | exact HB.out | apply below_alloc | apply pw_below_drewN | apply below_drew1) | exact HB.out)⟩⟩
                      case round =>
                        clear H'
                        try clear c1
                        try clear p1
                        try clear q1
                        try clear hx1
                        try clear c2
                        try clear p2
                        try clear c3
                        try clear p3
                        try clear q3
                        try clear hx3
                        try clear hf3
                        try clear c4
                        try clear c5
                        try clear p6
                        try clear c7
                        try clear c8
                        try clear c9
                        try clear c9b0
                        try clear c10
                        try clear c10b0
                        try clear c12
                        try clear c12b0
                        try clear c12b1
                        try clear c15
                        try clear p15
                        try clear q15
                        try clear hx15
                        try clear c16
                        try clear p16
                        try clear q16
                        try clear hx16
                        try clear c17
                        try clear c21
                        try clear c25
                        try clear c26
                        try clear c26b0
                        try clear c27
                        try clear c27b0
                        try clear c27b1
                        try clear c28
                        try clear c28b0
                        try clear c28b1
                        try clear c28b2
                        try clear c29
                        try clear c29b0
                        try clear c31
                        try clear c31b0
                        try clear c32
                        try clear c32b0
                        try clear c34
                        try clear c34b0
                        try clear c35
                        try clear c35b0
                        try clear c36
                        try clear p36
                        try clear q36
                        try clear hx36
                        try clear hf36
                        try clear c37
                        try clear p37
                        try clear q37
                        try clear hx37
                        try clear hf37
                        try clear c41
                        try clear c42
                        try clear c46
                        try clear c46b0
                        try clear c46b1
                        try clear c46b2
                        try clear hx153_0
                        try clear hx153_1
                        try clear hx153_2
                        try clear hx153_3
                        try clear hx153_4
                        try clear hx164_0
                        try clear hx166_0
                        try clear hx166_1
                        try clear hx166_2
                        try clear hx166_3
                        try clear hx166_4
                        try clear hx167_0
                        try clear hx167_1
                        try clear hx167_2
                        try clear hx167_3
                        try clear hx167_4
                        try clear hx36_0
                        try clear hx36_1
                        try clear hx36_2
                        try clear hx36_3
                        try clear hx36_4
                        try clear hx37_0
                        try clear hx37_1
                        try clear hx37_2
                        try clear hx37_3
                        try clear hx37_4
                        try clear p1
                        try clear p15
                        try clear p153
                        try clear p16
                        try clear p164
                        try clear p166
                        try clear p167
                        try clear p2
                        try clear p3
                        try clear p36
                        try clear p37
                        try clear p6
                        try clear q1
                        try clear q15
                        try clear q153
                        try clear q16
                        try clear q164
                        try clear q166
                        try clear q167
                        try clear q3
                        try clear q36
                        try clear q37
                        obtain ⟨x13_4, rfl, HA, HK4, HO_11, HO_12, HB⟩ := hrel
                        cases gk with
                        | zero => exact absurd HA.out (by simp [ostiarylaw22_SetsTurned.l2])
                        | succ k4 =>
                          have H := HA.out
                          clear HA
                          simp only [ostiarylaw22_SetsTurned.l2] at H
                          by_cases c52 : x13_4 < (t170.length : Int)
                          · rw [if_pos c52] at H
                            have c52b0 : decide (x13_4 < (t170.length : Int)) = true := decide_eq_true c52
                            clear c52
                            have H' := Aside0.mk H
                            clear H
                            go_wp2
                            go_loopg [14, 15] k4 (fun kq v14 v15 w' => ∃ (x14_5 : Int) (x15_5 : Int), v14 = .int .i64 x14_5 ∧ v15 = .int .i64 x15_5 ∧ Aside0 (ostiarylaw22_SetsTurned.l3 kq t151 t170 t173 x13_4 x14_5 x15_5 = some r) ∧ Aside0 (kq ≤ k4) ∧ Aside0 (Kd.S k32 32 w' w.heap.size (fun k_ => some k_ ≠ ((.slice Ao51 t173.length co51) : Value).ownBlock) (.slice Ao50 t170.length co50) t170) ∧ Aside0 (Kd.S k32 32 w' w.heap.size (fun k_ => some k_ ≠ ((.slice Ao50 t170.length co50) : Value).ownBlock) (.slice Ao51 t173.length co51) t173) ∧ Aside0 (Below w.heap.size w w'))
                            case atStart => exact ⟨(0), (0), (by first | rfl | (simp; done) | (simp [*]; done)), (by first | rfl | (simp; done) | (simp [*]; done)), H', ⟨Nat.le_refl _⟩, ⟨by (with_reducible repeat (first | apply Kd.S_alloc | apply Kd.S_drewN | apply Kd.S_drew)); exact HO_11.out⟩, ⟨by (with_reducible repeat (first | apply Kd.S_alloc | apply Kd.S_drewN | apply Kd.S_drew)); exact HO_12.out⟩, ⟨by repeat (first | (with_reducible first | exact HB.out | apply below_alloc | apply pw_below_drewN | apply below_drew1) | exact HB.out)⟩⟩
                            case round =>
                              clear H'
                              try clear c1
                              try clear p1
                              try clear q1
                              try clear hx1
                              try clear c2
                              try clear p2
                              try clear c3
                              try clear p3
                              try clear q3
                              try clear hx3
                              try clear hf3
                              try clear c4
                              try clear c5
                              try clear p6
                              try clear c7
                              try clear c8
                              try clear c9
                              try clear c9b0
                              try clear c10
                              try clear c10b0
                              try clear c12
                              try clear c12b0
                              try clear c12b1
                              try clear c15
                              try clear p15
                              try clear q15
                              try clear hx15
                              try clear c16
                              try clear p16
                              try clear q16
                              try clear hx16
                              try clear c17
                              try clear c21
                              try clear c25
                              try clear c26
                              try clear c26b0
                              try clear c27
                              try clear c27b0
                              try clear c27b1
                              try clear c28
                              try clear c28b0
                              try clear c28b1
                              try clear c28b2
                              try clear c29
                              try clear c29b0
                              try clear c31
                              try clear c31b0
                              try clear c32
                              try clear c32b0
                              try clear c34
                              try clear c34b0
                              try clear c35
                              try clear c35b0
                              try clear c36
                              try clear p36
                              try clear q36
                              try clear hx36
                              try clear hf36
                              try clear c37
                              try clear p37
                              try clear q37
                              try clear hx37
                              try clear hf37
                              try clear c41
                              try clear c42
                              try clear c46
                              try clear c46b0
                              try clear c46b1
                              try clear c46b2
                              try clear c52
                              try clear c52b0
                              try clear hx153_0
                              try clear hx153_1
                              try clear hx153_2
                              try clear hx153_3
                              try clear hx153_4
                              try clear hx164_0
                              try clear hx166_0
                              try clear hx166_1
                              try clear hx166_2
                              try clear hx166_3
                              try clear hx166_4
                              try clear hx167_0
                              try clear hx167_1
                              try clear hx167_2
                              try clear hx167_3
                              try clear hx167_4
                              try clear hx36_0
                              try clear hx36_1
                              try clear hx36_2
                              try clear hx36_3
                              try clear hx36_4
                              try clear hx37_0
                              try clear hx37_1
                              try clear hx37_2
                              try clear hx37_3
                              try clear hx37_4
                              try clear p1
                              try clear p15
                              try clear p153
                              try clear p16
                              try clear p164
                              try clear p166
                              try clear p167
                              try clear p2
                              try clear p3
                              try clear p36
                              try clear p37
                              try clear p6
                              try clear q1
                              try clear q15
                              try clear q153
                              try clear q16
                              try clear q164
                              try clear q166
                              try clear q167
                              try clear q3
                              try clear q36
                              try clear q37
                              obtain ⟨x14_5, x15_5, rfl, rfl, HA, HK5, HO_11, HO_12, HB⟩ := hrel
                              cases gk with
                              | zero => exact absurd HA.out (by simp [ostiarylaw22_SetsTurned.l3])
                              | succ k5 =>
                                have H := HA.out
                                clear HA
                                simp only [ostiarylaw22_SetsTurned.l3] at H
                                by_cases c53 : x15_5 < (t173.length : Int)
                                · rw [if_pos c53] at H
                                  have c53b0 : decide (x15_5 < (t173.length : Int)) = true := decide_eq_true c53
                                  clear c53
                                  by_cases c54 : 0 ≤ x13_4
                                  · rw [if_pos c54] at H
                                    have c54b0 : decide (0 ≤ x13_4) = true := decide_eq_true c54
                                    clear c54
                                    by_cases c55 : x13_4 < (t170.length : Int)
                                    · rw [if_pos c55] at H
                                      have c55b0 : decide (x13_4 < (t170.length : Int)) = true := decide_eq_true c55
                                      clear c55
                                      by_cases c56 : 0 ≤ x15_5
                                      · rw [if_pos c56] at H
                                        have c56b0 : decide (0 ≤ x15_5) = true := decide_eq_true c56
                                        clear c56
                                        replace H := Option.bind_eq_some_iff.mp H
                                        obtain ⟨t180, A570, H⟩ := H
                                        replace H : (if t180 = true then (if ((rd_T32 t170 x13_4).f3) = ((rd_T32 t173 x15_5).f3) then (ostiarylaw22_SetsTurned.l3 k5 t151 t170 t173 x13_4 (wrap64 (x14_5 + 1)) (wrap64 (x15_5 + 1))) else (ostiarylaw22_SetsTurned.l3 k5 t151 t170 t173 x13_4 x14_5 (wrap64 (x15_5 + 1)))) else (ostiarylaw22_SetsTurned.l3 k5 t151 t170 t173 x13_4 x14_5 (wrap64 (x15_5 + 1)))) = some r := H
                                        have A57 := Aside0.mk A570
                                        clear A570
                                        by_cases c58 : t180 = true
                                        · subst c58
                                          have H1 : (if ((rd_T32 t170 x13_4).f3) = ((rd_T32 t173 x15_5).f3) then (ostiarylaw22_SetsTurned.l3 k5 t151 t170 t173 x13_4 (wrap64 (x14_5 + 1)) (wrap64 (x15_5 + 1))) else (ostiarylaw22_SetsTurned.l3 k5 t151 t170 t173 x13_4 x14_5 (wrap64 (x15_5 + 1)))) = some r := by rw [if_pos rfl] at H; exact H
                                          clear H
                                          have H := H1
                                          clear H1
                                          by_cases c59 : ((rd_T32 t170 x13_4).f3) = ((rd_T32 t173 x15_5).f3)
                                          · rw [if_pos c59] at H
                                            have c59b0 : (((rd_T32 t170 x13_4).f3) == ((rd_T32 t173 x15_5).f3)) = true := beq_iff_eq.mpr c59
                                            have c59b1 : (((rd_T32 t170 x13_4).f3) != ((rd_T32 t173 x15_5).f3)) = false := bne_eq_false_iff_eq.mpr c59
                                            clear c59
                                            have H' := Aside0.mk H
                                            clear H
                                            try go_wp2
                                            have n0_ := Aside0.mk (Kd.S_drew HO_11.out)
                                            have n1_ := Aside0.mk (Kd.S_drew HO_12.out)
                                            have n2_ := Aside0.mk (below_drew1 HB.out)
                                            clear HO_11
                                            clear HO_12
                                            clear HB
                                            have HO_11 := n0_
                                            have HO_12 := n1_
                                            have HB := n2_
                                            clear n0_ n1_ n2_
                                            have p178 : 0 ≤ (x13_4 : Int) := of_decide_eq_true (by first | (with_reducible assumption) | assumption)
                                            have q178 : x13_4 < (t170.length : Int) := of_decide_eq_true (by first | (with_reducible assumption) | assumption)
                                            obtain ⟨ad178, A178_4, c178_4, e178, hx178_0, hx178_1, hx178_2, hx178_3, hx178_4, hl178_4, hi178_4⟩ := at_T32 (Kd.S_reads' HO_11.out).2.2 x13_4 p178 q178
                                            cases e178
                                            obtain ⟨ce178, hce178, hMe178, hcc178⟩ := Kd.S_get HO_11.out z32 x13_4 p178 (by first | exact q178 | exact of_decide_eq_true (by first | (with_reducible assumption) | assumption) | (have e_ := (Kd.S_reads' HO_11.out).1; omega))
                                            obtain ⟨ve178_4, rfl, ge178_4⟩ := k32_openM hMe178
                                            have hv178_4 := hcc178 4 _ rfl
                                            rw [add_field _ _ 4 (by omega)] at hv178_4
                                            replace hv178_4 := Option.some.inj (hv178_4.symm.trans hx178_4)
                                            rw [hv178_4] at ge178_4
                                            have HL178_4 := Aside0.mk (show Kd.R Kd.string 9 _ _ _ _ ((rd_T32 t170 x13_4).f4) from ge178_4)
                                            clear hv178_4 ge178_4
                                            clear hcc178 hce178
                                            have HR178_4 := Aside0.mk hi178_4
                                            have HC178_4 := Aside0.mk hl178_4
                                            clear hi178_4 hl178_4
                                            replace p178 := eq_true p178
                                            replace q178 := eq_true q178
                                            have p179 : 0 ≤ (x15_5 : Int) := of_decide_eq_true (by first | (with_reducible assumption) | assumption)
                                            have q179 : x15_5 < (t173.length : Int) := of_decide_eq_true (by first | (with_reducible assumption) | assumption)
                                            obtain ⟨ad179, A179_4, c179_4, e179, hx179_0, hx179_1, hx179_2, hx179_3, hx179_4, hl179_4, hi179_4⟩ := at_T32 (Kd.S_reads' HO_12.out).2.2 x15_5 p179 q179
                                            cases e179
                                            obtain ⟨ce179, hce179, hMe179, hcc179⟩ := Kd.S_get HO_12.out z32 x15_5 p179 (by first | exact q179 | exact of_decide_eq_true (by first | (with_reducible assumption) | assumption) | (have e_ := (Kd.S_reads' HO_12.out).1; omega))
                                            obtain ⟨ve179_4, rfl, ge179_4⟩ := k32_openM hMe179
                                            have hv179_4 := hcc179 4 _ rfl
                                            rw [add_field _ _ 4 (by omega)] at hv179_4
                                            replace hv179_4 := Option.some.inj (hv179_4.symm.trans hx179_4)
                                            rw [hv179_4] at ge179_4
                                            have HL179_4 := Aside0.mk (show Kd.R Kd.string 9 _ _ _ _ ((rd_T32 t173 x15_5).f4) from ge179_4)
                                            clear hv179_4 ge179_4
                                            clear hcc179 hce179
                                            have HR179_4 := Aside0.mk hi179_4
                                            have HC179_4 := Aside0.mk hl179_4
                                            clear hi179_4 hl179_4
                                            replace p179 := eq_true p179
                                            replace q179 := eq_true q179
                                            have p181 : 0 ≤ (x13_4 : Int) := of_decide_eq_true (by first | (with_reducible assumption) | assumption)
                                            have q181 : x13_4 < (t170.length : Int) := of_decide_eq_true (by first | (with_reducible assumption) | assumption)
                                            obtain ⟨ad181, A181_4, c181_4, e181, hx181_0, hx181_1, hx181_2, hx181_3, hx181_4, hl181_4, hi181_4⟩ := at_T32 (Kd.S_reads' HO_11.out).2.2 x13_4 p181 q181
                                            obtain rfl : ad178 = ad181 := (by injection e181)
                                            obtain ⟨ce181, hce181, hMe181, hcc181⟩ := Kd.S_get HO_11.out z32 x13_4 p181 (by first | exact q181 | exact of_decide_eq_true (by first | (with_reducible assumption) | assumption) | (have e_ := (Kd.S_reads' HO_11.out).1; omega))
                                            obtain ⟨ve181_4, rfl, ge181_4⟩ := k32_openM hMe181
                                            have hv181_4 := hcc181 4 _ rfl
                                            rw [add_field _ _ 4 (by omega)] at hv181_4
                                            replace hv181_4 := Option.some.inj (hv181_4.symm.trans hx181_4)
                                            rw [hv181_4] at ge181_4
                                            have HL181_4 := Aside0.mk (show Kd.R Kd.string 9 _ _ _ _ ((rd_T32 t170 x13_4).f4) from ge181_4)
                                            clear hv181_4 ge181_4
                                            clear hcc181 hce181
                                            have HR181_4 := Aside0.mk hi181_4
                                            have HC181_4 := Aside0.mk hl181_4
                                            clear hi181_4 hl181_4
                                            replace p181 := eq_true p181
                                            replace q181 := eq_true q181
                                            have p182 : 0 ≤ (x15_5 : Int) := of_decide_eq_true (by first | (with_reducible assumption) | assumption)
                                            have q182 : x15_5 < (t173.length : Int) := of_decide_eq_true (by first | (with_reducible assumption) | assumption)
                                            obtain ⟨ad182, A182_4, c182_4, e182, hx182_0, hx182_1, hx182_2, hx182_3, hx182_4, hl182_4, hi182_4⟩ := at_T32 (Kd.S_reads' HO_12.out).2.2 x15_5 p182 q182
                                            obtain rfl : ad179 = ad182 := (by injection e182)
                                            obtain ⟨ce182, hce182, hMe182, hcc182⟩ := Kd.S_get HO_12.out z32 x15_5 p182 (by first | exact q182 | exact of_decide_eq_true (by first | (with_reducible assumption) | assumption) | (have e_ := (Kd.S_reads' HO_12.out).1; omega))
                                            obtain ⟨ve182_4, rfl, ge182_4⟩ := k32_openM hMe182
                                            have hv182_4 := hcc182 4 _ rfl
                                            rw [add_field _ _ 4 (by omega)] at hv182_4
                                            replace hv182_4 := Option.some.inj (hv182_4.symm.trans hx182_4)
                                            rw [hv182_4] at ge182_4
                                            have HL182_4 := Aside0.mk (show Kd.R Kd.string 9 _ _ _ _ ((rd_T32 t173 x15_5).f4) from ge182_4)
                                            clear hv182_4 ge182_4
                                            clear hcc182 hce182
                                            have HR182_4 := Aside0.mk hi182_4
                                            have HC182_4 := Aside0.mk hl182_4
                                            clear hi182_4 hl182_4
                                            replace p182 := eq_true p182
                                            replace q182 := eq_true q182
                                            refine start_ (n := 22) (S := fun w' => w'.cell? (ad178.add ((x13_4).toNat * 5)) = some (.string ((rd_T32 t170 x13_4).f0)) ∧ w'.cell? ⟨(ad178.add ((x13_4).toNat * 5)).block, (ad178.add ((x13_4).toNat * 5)).off + 1, none⟩ = some (.int .i64 ((rd_T32 t170 x13_4).f1)) ∧ w'.cell? ⟨(ad178.add ((x13_4).toNat * 5)).block, (ad178.add ((x13_4).toNat * 5)).off + 2, none⟩ = some (.int .i64 ((rd_T32 t170 x13_4).f2)) ∧ w'.cell? ⟨(ad178.add ((x13_4).toNat * 5)).block, (ad178.add ((x13_4).toNat * 5)).off + 3, none⟩ = some (.int .i64 ((rd_T32 t170 x13_4).f3)) ∧ w'.cell? ⟨(ad178.add ((x13_4).toNat * 5)).block, (ad178.add ((x13_4).toNat * 5)).off + 4, none⟩ = some (.slice A178_4 ((rd_T32 t170 x13_4).f4).length c178_4) ∧ w'.cell? (ad179.add ((x15_5).toNat * 5)) = some (.string ((rd_T32 t173 x15_5).f0)) ∧ w'.cell? ⟨(ad179.add ((x15_5).toNat * 5)).block, (ad179.add ((x15_5).toNat * 5)).off + 1, none⟩ = some (.int .i64 ((rd_T32 t173 x15_5).f1)) ∧ w'.cell? ⟨(ad179.add ((x15_5).toNat * 5)).block, (ad179.add ((x15_5).toNat * 5)).off + 2, none⟩ = some (.int .i64 ((rd_T32 t173 x15_5).f2)) ∧ w'.cell? ⟨(ad179.add ((x15_5).toNat * 5)).block, (ad179.add ((x15_5).toNat * 5)).off + 3, none⟩ = some (.int .i64 ((rd_T32 t173 x15_5).f3)) ∧ w'.cell? ⟨(ad179.add ((x15_5).toNat * 5)).block, (ad179.add ((x15_5).toNat * 5)).off + 4, none⟩ = some (.slice A179_4 ((rd_T32 t173 x15_5).f4).length c179_4) ∧ w'.cell? (ad178.add ((x13_4).toNat * 5)) = some (.string ((rd_T32 t170 x13_4).f0)) ∧ w'.cell? ⟨(ad178.add ((x13_4).toNat * 5)).block, (ad178.add ((x13_4).toNat * 5)).off + 1, none⟩ = some (.int .i64 ((rd_T32 t170 x13_4).f1)) ∧ w'.cell? ⟨(ad178.add ((x13_4).toNat * 5)).block, (ad178.add ((x13_4).toNat * 5)).off + 2, none⟩ = some (.int .i64 ((rd_T32 t170 x13_4).f2)) ∧ w'.cell? ⟨(ad178.add ((x13_4).toNat * 5)).block, (ad178.add ((x13_4).toNat * 5)).off + 3, none⟩ = some (.int .i64 ((rd_T32 t170 x13_4).f3)) ∧ w'.cell? ⟨(ad178.add ((x13_4).toNat * 5)).block, (ad178.add ((x13_4).toNat * 5)).off + 4, none⟩ = some (.slice A181_4 ((rd_T32 t170 x13_4).f4).length c181_4) ∧ w'.cell? (ad179.add ((x15_5).toNat * 5)) = some (.string ((rd_T32 t173 x15_5).f0)) ∧ w'.cell? ⟨(ad179.add ((x15_5).toNat * 5)).block, (ad179.add ((x15_5).toNat * 5)).off + 1, none⟩ = some (.int .i64 ((rd_T32 t173 x15_5).f1)) ∧ w'.cell? ⟨(ad179.add ((x15_5).toNat * 5)).block, (ad179.add ((x15_5).toNat * 5)).off + 2, none⟩ = some (.int .i64 ((rd_T32 t173 x15_5).f2)) ∧ w'.cell? ⟨(ad179.add ((x15_5).toNat * 5)).block, (ad179.add ((x15_5).toNat * 5)).off + 3, none⟩ = some (.int .i64 ((rd_T32 t173 x15_5).f3)) ∧ w'.cell? ⟨(ad179.add ((x15_5).toNat * 5)).block, (ad179.add ((x15_5).toNat * 5)).off + 4, none⟩ = some (.slice A182_4 ((rd_T32 t173 x15_5).f4).length c182_4)) (ds := []) #[false, false, false, false, false, false, false, false, false, false, false, false, false, false, false, false, false, false, false, false, false, false] (by kernel_rfl) rfl rfl ⟨hx178_0, hx178_1, hx178_2, hx178_3, hx178_4, hx179_0, hx179_1, hx179_2, hx179_3, hx179_4, hx181_0, hx181_1, hx181_2, hx181_3, hx181_4, hx182_0, hx182_1, hx182_2, hx182_3, hx182_4⟩ (fun hHeld => ?_); refine with_tabW ostiarylaw22_SetsTurned.tab25 ostiarylaw22_SetsTurned.bits25 (fun HT_ HW_ => ?_)
                                            generalize wr.drew = w60 at HO_11 HO_12 HB HL178_4 HL179_4 HL181_4 HL182_4 HR178_4 HR179_4 HR181_4 HR182_4 hx178_0 hx178_1 hx178_2 hx178_3 hx178_4 hx179_0 hx179_1 hx179_2 hx179_3 hx179_4 hx181_0 hx181_1 hx181_2 hx181_3 hx181_4 hx182_0 hx182_1 hx182_2 hx182_3 hx182_4 hHeld ⊢
                                            refine pure_ (i := 0) (N := some 101) (v := ?_) (a' := ?_) #[true, false, false, false, false, false, false, false, false, false, false, false, false, false, false, false, false, false, false, false, false, false] rfl rfl (any_of HT_.out (by kernel_rfl)) (fun _ _ _ h => h) (Or.inl ⟨by rfl, ?_⟩) ?_ ?_
                                            rotate_left
                                            · intro w'
                                              go_simp
                                              with_reducible rfl
                                            rotate_left
                                            · simp only [Act.put, List.setIfInBounds_toArray, List.set_cons_zero, List.set_cons_succ, i64_w, i32_w]
                                              rfl
                                            refine pure_ (i := 1) (N := some 102) (v := ?_) (a' := ?_) #[true, true, false, false, false, false, false, false, false, false, false, false, false, false, false, false, false, false, false, false, false, false] rfl rfl (any_of HT_.out (by kernel_rfl)) (fun _ _ _ h => h) (Or.inl ⟨by rfl, ?_⟩) ?_ ?_
                                            rotate_left
                                            · intro w'
                                              go_simp
                                              with_reducible rfl
                                            rotate_left
                                            · simp only [Act.put, List.setIfInBounds_toArray, List.set_cons_zero, List.set_cons_succ, i64_w, i32_w]
                                              rfl
                                            refine pure_ (i := 2) (N := some 103) (v := ?_) (a' := ?_) #[true, true, true, false, false, false, false, false, false, false, false, false, false, false, false, false, false, false, false, false, false, false] rfl rfl (any_of HT_.out (by kernel_rfl)) (fun _ _ _ h => h) (Or.inl ⟨by rfl, ?_⟩) ?_ ?_
                                            rotate_left
                                            · intro w'
                                              go_simp
                                              with_reducible rfl
                                            rotate_left
                                            · simp only [Act.put, List.setIfInBounds_toArray, List.set_cons_zero, List.set_cons_succ, i64_w, i32_w]
                                              rfl
                                            refine pure_ (i := 4) (N := some 105) (v := ?_) (a' := ?_) #[true, true, true, false, true, false, false, false, false, false, false, false, false, false, false, false, false, false, false, false, false, false] rfl rfl (any_of HT_.out (by kernel_rfl)) (fun _ _ _ h => h) (Or.inl ⟨by rfl, ?_⟩) ?_ ?_
                                            rotate_left
                                            · intro w'
                                              go_simp
                                              with_reducible rfl
                                            rotate_left
                                            · simp only [Act.put, List.setIfInBounds_toArray, List.set_cons_zero, List.set_cons_succ, i64_w, i32_w]
                                              rfl
                                            refine pure_ (i := 5) (N := some 106) (v := ?_) (a' := ?_) #[true, true, true, false, true, true, false, false, false, false, false, false, false, false, false, false, false, false, false, false, false, false] rfl rfl (any_of HT_.out (by kernel_rfl)) (fun _ _ _ h => h) (Or.inl ⟨by rfl, ?_⟩) ?_ ?_
                                            rotate_left
                                            · intro w'
                                              go_simp
                                              with_reducible rfl
                                            rotate_left
                                            · simp only [Act.put, List.setIfInBounds_toArray, List.set_cons_zero, List.set_cons_succ, i64_w, i32_w]
                                              rfl
                                            refine pure_ (i := 6) (N := some 107) (v := ?_) (a' := ?_) #[true, true, true, false, true, true, true, false, false, false, false, false, false, false, false, false, false, false, false, false, false, false] rfl rfl (any_of HT_.out (by kernel_rfl)) (fun _ _ _ h => h) (Or.inl ⟨by rfl, ?_⟩) ?_ ?_
                                            rotate_left
                                            · intro w'
                                              go_simp
                                              with_reducible rfl
                                            rotate_left
                                            · simp only [Act.put, List.setIfInBounds_toArray, List.set_cons_zero, List.set_cons_succ, i64_w, i32_w]
                                              rfl
                                            refine take_ (i := 3) (N := some 104) (v := ?_) (a' := ?_) #[true, true, true, true, true, true, true, false, false, false, false, false, false, false, false, false, false, false, false, false, false, false] rfl rfl (take_ofW HT_.out HW_.out (by kernel_rfl)) (fun _ _ _ h => h) (Or.inl ⟨by rfl, ?_⟩) hHeld ?_ ?_
                                            rotate_left
                                            · rintro w' ⟨s0, s1, s2, s3, s4, s5, s6, s7, s8, s9, s10, s11, s12, s13, s14, s15, s16, s17, s18, s19⟩
                                              go_simp
                                              with_reducible rfl
                                            rotate_left
                                            · simp only [Act.put, List.setIfInBounds_toArray, List.set_cons_zero, List.set_cons_succ, i64_w, i32_w]
                                              rfl
                                            refine take_ (i := 7) (N := some 108) (v := ?_) (a' := ?_) #[true, true, true, true, true, true, true, true, false, false, false, false, false, false, false, false, false, false, false, false, false, false] rfl rfl (take_ofW HT_.out HW_.out (by kernel_rfl)) (fun _ _ _ h => h) (Or.inl ⟨by rfl, ?_⟩) hHeld ?_ ?_
                                            rotate_left
                                            · rintro w' ⟨s0, s1, s2, s3, s4, s5, s6, s7, s8, s9, s10, s11, s12, s13, s14, s15, s16, s17, s18, s19⟩
                                              go_simp
                                              with_reducible rfl
                                            rotate_left
                                            · simp only [Act.put, List.setIfInBounds_toArray, List.set_cons_zero, List.set_cons_succ, i64_w, i32_w]
                                              rfl
                                            refine one_ (i := 8) (N := some 109) #[true, true, true, true, true, true, true, true, true, false, false, false, false, false, false, false, false, false, false, false, false, false] rfl rfl (one_of HT_.out (by kernel_rfl)) (by decide) (fun K hK => ?_)
                                            refine goes_ Try.func27 (by kernel_rfl) rfl #[.agg #[.string ((rd_T32 t170 x13_4).f0), .int .i64 ((rd_T32 t170 x13_4).f1), .int .i64 ((rd_T32 t170 x13_4).f2), .int .i64 ((rd_T32 t170 x13_4).f3), .slice A178_4 ((rd_T32 t170 x13_4).f4).length c178_4], .agg #[.string ((rd_T32 t173 x15_5).f0), .int .i64 ((rd_T32 t173 x15_5).f1), .int .i64 ((rd_T32 t173 x15_5).f2), .int .i64 ((rd_T32 t173 x15_5).f3), .slice A179_4 ((rd_T32 t173 x15_5).f4).length c179_4]] (by rfl) rfl rfl (by (try simp only [List.map_toArray, List.map_cons, List.map_nil]); first | done | rfl | (simp only [List.length_drop, List.length_take]; rfl)) ?_
                                            with_reducible refine (sets_Same.calls ((rd_T32 t170 x13_4).f0) ((rd_T32 t170 x13_4).f1) ((rd_T32 t170 x13_4).f2) ((rd_T32 t170 x13_4).f3) _ _ ((rd_T32 t170 x13_4).f4) ((rd_T32 t173 x15_5).f0) ((rd_T32 t173 x15_5).f1) ((rd_T32 t173 x15_5).f2) ((rd_T32 t173 x15_5).f3) _ _ ((rd_T32 t173 x15_5).f4) true _ ?side1 ?side2 ?side3 ?side4 A57.out).mono ?_
                                            (case side1 => repeat (first | exact (by repeat (first | (with_reducible exact HR178_4.out) | (with_reducible refine Kd.C_alloc ?_ _) | (with_reducible refine Kd.C_drewN ?_ _) | (with_reducible refine Kd.C_drew ?_) | exact HR178_4.out)) | (with_reducible refine Kd.C_alloc ?_ _) | (with_reducible refine Kd.C_drewN ?_ _) | (with_reducible refine Kd.C_drew ?_)))
                                            (case side2 => exact HC178_4.out)
                                            (case side3 => repeat (first | exact (by repeat (first | (with_reducible exact HR179_4.out) | (with_reducible refine Kd.C_alloc ?_ _) | (with_reducible refine Kd.C_drewN ?_ _) | (with_reducible refine Kd.C_drew ?_) | exact HR179_4.out)) | (with_reducible refine Kd.C_alloc ?_ _) | (with_reducible refine Kd.C_drewN ?_ _) | (with_reducible refine Kd.C_drew ?_)))
                                            (case side4 => exact HC179_4.out)
                                            rintro e w61 ⟨rfl, hb⟩
                                            have HS0_ := (hb.cell (World.block_lt_of_cell? _ _ (hHeld.1))).trans (hHeld.1)
                                            have HS1_ := (hb.cell (World.block_lt_of_cell? _ _ (hHeld.2.1))).trans (hHeld.2.1)
                                            have HS2_ := (hb.cell (World.block_lt_of_cell? _ _ (hHeld.2.2.1))).trans (hHeld.2.2.1)
                                            have HS3_ := (hb.cell (World.block_lt_of_cell? _ _ (hHeld.2.2.2.1))).trans (hHeld.2.2.2.1)
                                            have HS4_ := (hb.cell (World.block_lt_of_cell? _ _ (hHeld.2.2.2.2.1))).trans (hHeld.2.2.2.2.1)
                                            have HS5_ := (hb.cell (World.block_lt_of_cell? _ _ (hHeld.2.2.2.2.2.1))).trans (hHeld.2.2.2.2.2.1)
                                            have HS6_ := (hb.cell (World.block_lt_of_cell? _ _ (hHeld.2.2.2.2.2.2.1))).trans (hHeld.2.2.2.2.2.2.1)
                                            have HS7_ := (hb.cell (World.block_lt_of_cell? _ _ (hHeld.2.2.2.2.2.2.2.1))).trans (hHeld.2.2.2.2.2.2.2.1)
                                            have HS8_ := (hb.cell (World.block_lt_of_cell? _ _ (hHeld.2.2.2.2.2.2.2.2.1))).trans (hHeld.2.2.2.2.2.2.2.2.1)
                                            have HS9_ := (hb.cell (World.block_lt_of_cell? _ _ (hHeld.2.2.2.2.2.2.2.2.2.1))).trans (hHeld.2.2.2.2.2.2.2.2.2.1)
                                            have HS10_ := (hb.cell (World.block_lt_of_cell? _ _ (hHeld.2.2.2.2.2.2.2.2.2.2.1))).trans (hHeld.2.2.2.2.2.2.2.2.2.2.1)
                                            have HS11_ := (hb.cell (World.block_lt_of_cell? _ _ (hHeld.2.2.2.2.2.2.2.2.2.2.2.1))).trans (hHeld.2.2.2.2.2.2.2.2.2.2.2.1)
                                            have HS12_ := (hb.cell (World.block_lt_of_cell? _ _ (hHeld.2.2.2.2.2.2.2.2.2.2.2.2.1))).trans (hHeld.2.2.2.2.2.2.2.2.2.2.2.2.1)
                                            have HS13_ := (hb.cell (World.block_lt_of_cell? _ _ (hHeld.2.2.2.2.2.2.2.2.2.2.2.2.2.1))).trans (hHeld.2.2.2.2.2.2.2.2.2.2.2.2.2.1)
                                            have HS14_ := (hb.cell (World.block_lt_of_cell? _ _ (hHeld.2.2.2.2.2.2.2.2.2.2.2.2.2.2.1))).trans (hHeld.2.2.2.2.2.2.2.2.2.2.2.2.2.2.1)
                                            have HS15_ := (hb.cell (World.block_lt_of_cell? _ _ (hHeld.2.2.2.2.2.2.2.2.2.2.2.2.2.2.2.1))).trans (hHeld.2.2.2.2.2.2.2.2.2.2.2.2.2.2.2.1)
                                            have HS16_ := (hb.cell (World.block_lt_of_cell? _ _ (hHeld.2.2.2.2.2.2.2.2.2.2.2.2.2.2.2.2.1))).trans (hHeld.2.2.2.2.2.2.2.2.2.2.2.2.2.2.2.2.1)
                                            have HS17_ := (hb.cell (World.block_lt_of_cell? _ _ (hHeld.2.2.2.2.2.2.2.2.2.2.2.2.2.2.2.2.2.1))).trans (hHeld.2.2.2.2.2.2.2.2.2.2.2.2.2.2.2.2.2.1)
                                            have HS18_ := (hb.cell (World.block_lt_of_cell? _ _ (hHeld.2.2.2.2.2.2.2.2.2.2.2.2.2.2.2.2.2.2.1))).trans (hHeld.2.2.2.2.2.2.2.2.2.2.2.2.2.2.2.2.2.2.1)
                                            have HS19_ := (hb.cell (World.block_lt_of_cell? _ _ (hHeld.2.2.2.2.2.2.2.2.2.2.2.2.2.2.2.2.2.2.2))).trans (hHeld.2.2.2.2.2.2.2.2.2.2.2.2.2.2.2.2.2.2.2)
                                            refine ⟨_, rfl, ?_⟩
                                            have n0_ := Aside0.mk (Kd.S_below (by (with_reducible repeat (first | apply Kd.S_alloc | apply Kd.S_drewN | apply Kd.S_drew)); exact HO_11.out) hb)
                                            have n1_ := Aside0.mk (Kd.S_below (by (with_reducible repeat (first | apply Kd.S_alloc | apply Kd.S_drewN | apply Kd.S_drew)); exact HO_12.out) hb)
                                            have n2_ := Aside0.mk (Kd.R_below (by (with_reducible repeat (first | apply Kd.R_alloc | apply Kd.R_drewN | apply Kd.R_drew)); exact HL178_4.out) hb)
                                            have n3_ := Aside0.mk (Kd.R_below (by (with_reducible repeat (first | apply Kd.R_alloc | apply Kd.R_drewN | apply Kd.R_drew)); exact HL179_4.out) hb)
                                            have n4_ := Aside0.mk (Kd.C_below (by repeat (first | (with_reducible exact HR178_4.out) | (with_reducible refine Kd.C_alloc ?_ _) | (with_reducible refine Kd.C_drewN ?_ _) | (with_reducible refine Kd.C_drew ?_) | exact HR178_4.out)) hb)
                                            have n5_ := Aside0.mk (Kd.C_below (by repeat (first | (with_reducible exact HR179_4.out) | (with_reducible refine Kd.C_alloc ?_ _) | (with_reducible refine Kd.C_drewN ?_ _) | (with_reducible refine Kd.C_drew ?_) | exact HR179_4.out)) hb)
                                            have n6_ := Aside0.mk (below_step (by repeat (first | (with_reducible first | exact HB.out | apply below_alloc | apply pw_below_drewN | apply below_drew1) | exact HB.out)) hb)
                                            clear HO_11
                                            clear HO_12
                                            clear HL178_4
                                            clear HL179_4
                                            clear HR178_4
                                            clear HR179_4
                                            clear HB
                                            have HO_11 := n0_
                                            have HO_12 := n1_
                                            have HL178_4 := n2_
                                            have HL179_4 := n3_
                                            have HR178_4 := n4_
                                            have HR179_4 := n5_
                                            have HB := n6_
                                            clear n0_ n1_ n2_ n3_ n4_ n5_ n6_
                                            (try clear hb)
                                            (try clear hb2)
                                            (try clear hk)
                                            (try clear hi)
                                            refine hK.out _ _ ⟨HS0_, HS1_, HS2_, HS3_, HS4_, HS5_, HS6_, HS7_, HS8_, HS9_, HS10_, HS11_, HS12_, HS13_, HS14_, HS15_, HS16_, HS17_, HS18_, HS19_⟩ (fun hHeld => ?_)
                                            clear hK K
                                            refine norm_ (a' := ?_) ?_ ?_
                                            rotate_left
                                            · show Act.put _ (some 109) _ = _
                                              simp only [Act.put, List.setIfInBounds_toArray, List.set_cons_zero, List.set_cons_succ, i64_w, i32_w]
                                              rfl
                                            refine pure_ (i := 9) (N := some 110) (v := ?_) (a' := ?_) #[true, true, true, true, true, true, true, true, true, true, false, false, false, false, false, false, false, false, false, false, false, false] rfl rfl (any_of HT_.out (by kernel_rfl)) (fun _ _ _ h => h) (Or.inl ⟨by rfl, ?_⟩) ?_ ?_
                                            rotate_left
                                            · intro w'
                                              go_simp
                                              with_reducible rfl
                                            rotate_left
                                            · simp only [Act.put, List.setIfInBounds_toArray, List.set_cons_zero, List.set_cons_succ, i64_w, i32_w]
                                              rfl
                                            refine pure_ (i := 10) (N := some 111) (v := ?_) (a' := ?_) #[true, true, true, true, true, true, true, true, true, true, true, false, false, false, false, false, false, false, false, false, false, false] rfl rfl (any_of HT_.out (by kernel_rfl)) (fun _ _ _ h => h) (Or.inl ⟨by rfl, ?_⟩) ?_ ?_
                                            rotate_left
                                            · intro w'
                                              go_simp
                                              with_reducible rfl
                                            rotate_left
                                            · simp only [Act.put, List.setIfInBounds_toArray, List.set_cons_zero, List.set_cons_succ, i64_w, i32_w]
                                              rfl
                                            refine pure_ (i := 11) (N := some 112) (v := ?_) (a' := ?_) #[true, true, true, true, true, true, true, true, true, true, true, true, false, false, false, false, false, false, false, false, false, false] rfl rfl (any_of HT_.out (by kernel_rfl)) (fun _ _ _ h => h) (Or.inl ⟨by rfl, ?_⟩) ?_ ?_
                                            rotate_left
                                            · intro w'
                                              go_simp
                                              with_reducible rfl
                                            rotate_left
                                            · simp only [Act.put, List.setIfInBounds_toArray, List.set_cons_zero, List.set_cons_succ, i64_w, i32_w]
                                              rfl
                                            refine pure_ (i := 12) (N := some 113) (v := ?_) (a' := ?_) #[true, true, true, true, true, true, true, true, true, true, true, true, true, false, false, false, false, false, false, false, false, false] rfl rfl (any_of HT_.out (by kernel_rfl)) (fun _ _ _ h => h) (Or.inl ⟨by rfl, ?_⟩) ?_ ?_
                                            rotate_left
                                            · intro w'
                                              go_simp
                                              with_reducible rfl
                                            rotate_left
                                            · simp only [Act.put, List.setIfInBounds_toArray, List.set_cons_zero, List.set_cons_succ, i64_w, i32_w]
                                              rfl
                                            refine pure_ (i := 13) (N := some 114) (v := ?_) (a' := ?_) #[true, true, true, true, true, true, true, true, true, true, true, true, true, true, false, false, false, false, false, false, false, false] rfl rfl (any_of HT_.out (by kernel_rfl)) (fun _ _ _ h => h) (Or.inl ⟨by rfl, ?_⟩) ?_ ?_
                                            rotate_left
                                            · intro w'
                                              go_simp
                                              with_reducible rfl
                                            rotate_left
                                            · simp only [Act.put, List.setIfInBounds_toArray, List.set_cons_zero, List.set_cons_succ, i64_w, i32_w]
                                              rfl
                                            refine pure_ (i := 15) (N := some 116) (v := ?_) (a' := ?_) #[true, true, true, true, true, true, true, true, true, true, true, true, true, true, false, true, false, false, false, false, false, false] rfl rfl (any_of HT_.out (by kernel_rfl)) (fun _ _ _ h => h) (Or.inl ⟨by rfl, ?_⟩) ?_ ?_
                                            rotate_left
                                            · intro w'
                                              go_simp
                                              with_reducible rfl
                                            rotate_left
                                            · simp only [Act.put, List.setIfInBounds_toArray, List.set_cons_zero, List.set_cons_succ, i64_w, i32_w]
                                              rfl
                                            refine pure_ (i := 16) (N := some 117) (v := ?_) (a' := ?_) #[true, true, true, true, true, true, true, true, true, true, true, true, true, true, false, true, true, false, false, false, false, false] rfl rfl (any_of HT_.out (by kernel_rfl)) (fun _ _ _ h => h) (Or.inl ⟨by rfl, ?_⟩) ?_ ?_
                                            rotate_left
                                            · intro w'
                                              go_simp
                                              with_reducible rfl
                                            rotate_left
                                            · simp only [Act.put, List.setIfInBounds_toArray, List.set_cons_zero, List.set_cons_succ, i64_w, i32_w]
                                              rfl
                                            refine pure_ (i := 17) (N := some 118) (v := ?_) (a' := ?_) #[true, true, true, true, true, true, true, true, true, true, true, true, true, true, false, true, true, true, false, false, false, false] rfl rfl (any_of HT_.out (by kernel_rfl)) (fun _ _ _ h => h) (Or.inl ⟨by rfl, ?_⟩) ?_ ?_
                                            rotate_left
                                            · intro w'
                                              go_simp
                                              with_reducible rfl
                                            rotate_left
                                            · simp only [Act.put, List.setIfInBounds_toArray, List.set_cons_zero, List.set_cons_succ, i64_w, i32_w]
                                              rfl
                                            refine pure_ (i := 18) (N := some 119) (v := ?_) (a' := ?_) #[true, true, true, true, true, true, true, true, true, true, true, true, true, true, false, true, true, true, true, false, false, false] rfl rfl (any_of HT_.out (by kernel_rfl)) (fun _ _ _ h => h) (Or.inl ⟨by rfl, ?_⟩) ?_ ?_
                                            rotate_left
                                            · intro w'
                                              go_simp
                                              with_reducible rfl
                                            rotate_left
                                            · simp only [Act.put, List.setIfInBounds_toArray, List.set_cons_zero, List.set_cons_succ, i64_w, i32_w]
                                              rfl
                                            refine take_ (i := 14) (N := some 115) (v := ?_) (a' := ?_) #[true, true, true, true, true, true, true, true, true, true, true, true, true, true, true, true, true, true, true, false, false, false] rfl rfl (take_ofW HT_.out HW_.out (by kernel_rfl)) (fun _ _ _ h => h) (Or.inl ⟨by rfl, ?_⟩) hHeld ?_ ?_
                                            rotate_left
                                            · rintro w' ⟨s0, s1, s2, s3, s4, s5, s6, s7, s8, s9, s10, s11, s12, s13, s14, s15, s16, s17, s18, s19⟩
                                              go_simp
                                              with_reducible rfl
                                            rotate_left
                                            · simp only [Act.put, List.setIfInBounds_toArray, List.set_cons_zero, List.set_cons_succ, i64_w, i32_w]
                                              rfl
                                            refine take_ (i := 19) (N := some 120) (v := ?_) (a' := ?_) #[true, true, true, true, true, true, true, true, true, true, true, true, true, true, true, true, true, true, true, true, false, false] rfl rfl (take_ofW HT_.out HW_.out (by kernel_rfl)) (fun _ _ _ h => h) (Or.inl ⟨by rfl, ?_⟩) hHeld ?_ ?_
                                            rotate_left
                                            · rintro w' ⟨s0, s1, s2, s3, s4, s5, s6, s7, s8, s9, s10, s11, s12, s13, s14, s15, s16, s17, s18, s19⟩
                                              go_simp
                                              with_reducible rfl
                                            rotate_left
                                            · simp only [Act.put, List.setIfInBounds_toArray, List.set_cons_zero, List.set_cons_succ, i64_w, i32_w]
                                              rfl
                                            refine pure_ (i := 20) (N := some 121) (v := ?_) (a' := ?_) #[true, true, true, true, true, true, true, true, true, true, true, true, true, true, true, true, true, true, true, true, true, false] rfl rfl (any_of HT_.out (by kernel_rfl)) (fun _ _ _ h => h) (Or.inl ⟨by rfl, ?_⟩) ?_ ?_
                                            rotate_left
                                            · intro w'
                                              go_simp
                                              with_reducible rfl
                                            rotate_left
                                            · simp only [Act.put, List.setIfInBounds_toArray, List.set_cons_zero, List.set_cons_succ, i64_w, i32_w]
                                              rfl
                                            refine pure_ (i := 21) (N := some 122) (v := ?_) (a' := ?_) #[true, true, true, true, true, true, true, true, true, true, true, true, true, true, true, true, true, true, true, true, true, true] rfl rfl (any_of HT_.out (by kernel_rfl)) (fun _ _ _ h => h) (Or.inl ⟨by rfl, ?_⟩) ?_ ?_
                                            rotate_left
                                            · intro w'
                                              go_simp
                                              with_reducible rfl
                                            rotate_left
                                            · simp only [Act.put, List.setIfInBounds_toArray, List.set_cons_zero, List.set_cons_succ, i64_w, i32_w]
                                              rfl
                                            refine done_ (done_of HT_.out (by kernel_rfl)) ?_
                                            try go_wp2
                                            go_roundg k5
                                            case measure => have := HJ3.out; have := HK2.out; have := HJ21.out; have := HK4.out; have := HK5.out; omega
                                            case rel => exact ⟨(wrap64 (x14_5 + 1)), (wrap64 (x15_5 + 1)), (by first | rfl | (simp; done) | (simp [*]; done)), (by first | rfl | (simp; done) | (simp [*]; done)), H', ⟨by have := HJ3.out; have := HK2.out; have := HJ21.out; have := HK4.out; have := HK5.out; omega⟩, ⟨by (with_reducible repeat (first | apply Kd.S_alloc | apply Kd.S_drewN | apply Kd.S_drew)); exact HO_11.out⟩, ⟨by (with_reducible repeat (first | apply Kd.S_alloc | apply Kd.S_drewN | apply Kd.S_drew)); exact HO_12.out⟩, ⟨by repeat (first | (with_reducible first | exact HB.out | apply below_alloc | apply pw_below_drewN | apply below_drew1) | exact HB.out)⟩⟩
                                          · rw [if_neg c59] at H
                                            have c59b0 : (((rd_T32 t170 x13_4).f3) == ((rd_T32 t173 x15_5).f3)) = false := beq_eq_false_iff_ne.mpr c59
                                            have c59b1 : (((rd_T32 t170 x13_4).f3) != ((rd_T32 t173 x15_5).f3)) = true := bne_iff_ne.mpr c59
                                            have H' := Aside0.mk H
                                            clear H
                                            try go_wp2
                                            have n0_ := Aside0.mk (Kd.S_drew HO_11.out)
                                            have n1_ := Aside0.mk (Kd.S_drew HO_12.out)
                                            have n2_ := Aside0.mk (below_drew1 HB.out)
                                            clear HO_11
                                            clear HO_12
                                            clear HB
                                            have HO_11 := n0_
                                            have HO_12 := n1_
                                            have HB := n2_
                                            clear n0_ n1_ n2_
                                            have p178 : 0 ≤ (x13_4 : Int) := of_decide_eq_true (by first | (with_reducible assumption) | assumption)
                                            have q178 : x13_4 < (t170.length : Int) := of_decide_eq_true (by first | (with_reducible assumption) | assumption)
                                            obtain ⟨ad178, A178_4, c178_4, e178, hx178_0, hx178_1, hx178_2, hx178_3, hx178_4, hl178_4, hi178_4⟩ := at_T32 (Kd.S_reads' HO_11.out).2.2 x13_4 p178 q178
                                            cases e178
                                            obtain ⟨ce178, hce178, hMe178, hcc178⟩ := Kd.S_get HO_11.out z32 x13_4 p178 (by first | exact q178 | exact of_decide_eq_true (by first | (with_reducible assumption) | assumption) | (have e_ := (Kd.S_reads' HO_11.out).1; omega))
                                            obtain ⟨ve178_4, rfl, ge178_4⟩ := k32_openM hMe178
                                            have hv178_4 := hcc178 4 _ rfl
                                            rw [add_field _ _ 4 (by omega)] at hv178_4
                                            replace hv178_4 := Option.some.inj (hv178_4.symm.trans hx178_4)
                                            rw [hv178_4] at ge178_4
                                            have HL178_4 := Aside0.mk (show Kd.R Kd.string 9 _ _ _ _ ((rd_T32 t170 x13_4).f4) from ge178_4)
                                            clear hv178_4 ge178_4
                                            clear hcc178 hce178
                                            have HR178_4 := Aside0.mk hi178_4
                                            have HC178_4 := Aside0.mk hl178_4
                                            clear hi178_4 hl178_4
                                            replace p178 := eq_true p178
                                            replace q178 := eq_true q178
                                            have p179 : 0 ≤ (x15_5 : Int) := of_decide_eq_true (by first | (with_reducible assumption) | assumption)
                                            have q179 : x15_5 < (t173.length : Int) := of_decide_eq_true (by first | (with_reducible assumption) | assumption)
                                            obtain ⟨ad179, A179_4, c179_4, e179, hx179_0, hx179_1, hx179_2, hx179_3, hx179_4, hl179_4, hi179_4⟩ := at_T32 (Kd.S_reads' HO_12.out).2.2 x15_5 p179 q179
                                            cases e179
                                            obtain ⟨ce179, hce179, hMe179, hcc179⟩ := Kd.S_get HO_12.out z32 x15_5 p179 (by first | exact q179 | exact of_decide_eq_true (by first | (with_reducible assumption) | assumption) | (have e_ := (Kd.S_reads' HO_12.out).1; omega))
                                            obtain ⟨ve179_4, rfl, ge179_4⟩ := k32_openM hMe179
                                            have hv179_4 := hcc179 4 _ rfl
                                            rw [add_field _ _ 4 (by omega)] at hv179_4
                                            replace hv179_4 := Option.some.inj (hv179_4.symm.trans hx179_4)
                                            rw [hv179_4] at ge179_4
                                            have HL179_4 := Aside0.mk (show Kd.R Kd.string 9 _ _ _ _ ((rd_T32 t173 x15_5).f4) from ge179_4)
                                            clear hv179_4 ge179_4
                                            clear hcc179 hce179
                                            have HR179_4 := Aside0.mk hi179_4
                                            have HC179_4 := Aside0.mk hl179_4
                                            clear hi179_4 hl179_4
                                            replace p179 := eq_true p179
                                            replace q179 := eq_true q179
                                            have p181 : 0 ≤ (x13_4 : Int) := of_decide_eq_true (by first | (with_reducible assumption) | assumption)
                                            have q181 : x13_4 < (t170.length : Int) := of_decide_eq_true (by first | (with_reducible assumption) | assumption)
                                            obtain ⟨ad181, A181_4, c181_4, e181, hx181_0, hx181_1, hx181_2, hx181_3, hx181_4, hl181_4, hi181_4⟩ := at_T32 (Kd.S_reads' HO_11.out).2.2 x13_4 p181 q181
                                            obtain rfl : ad178 = ad181 := (by injection e181)
                                            obtain ⟨ce181, hce181, hMe181, hcc181⟩ := Kd.S_get HO_11.out z32 x13_4 p181 (by first | exact q181 | exact of_decide_eq_true (by first | (with_reducible assumption) | assumption) | (have e_ := (Kd.S_reads' HO_11.out).1; omega))
                                            obtain ⟨ve181_4, rfl, ge181_4⟩ := k32_openM hMe181
                                            have hv181_4 := hcc181 4 _ rfl
                                            rw [add_field _ _ 4 (by omega)] at hv181_4
                                            replace hv181_4 := Option.some.inj (hv181_4.symm.trans hx181_4)
                                            rw [hv181_4] at ge181_4
                                            have HL181_4 := Aside0.mk (show Kd.R Kd.string 9 _ _ _ _ ((rd_T32 t170 x13_4).f4) from ge181_4)
                                            clear hv181_4 ge181_4
                                            clear hcc181 hce181
                                            have HR181_4 := Aside0.mk hi181_4
                                            have HC181_4 := Aside0.mk hl181_4
                                            clear hi181_4 hl181_4
                                            replace p181 := eq_true p181
                                            replace q181 := eq_true q181
                                            have p182 : 0 ≤ (x15_5 : Int) := of_decide_eq_true (by first | (with_reducible assumption) | assumption)
                                            have q182 : x15_5 < (t173.length : Int) := of_decide_eq_true (by first | (with_reducible assumption) | assumption)
                                            obtain ⟨ad182, A182_4, c182_4, e182, hx182_0, hx182_1, hx182_2, hx182_3, hx182_4, hl182_4, hi182_4⟩ := at_T32 (Kd.S_reads' HO_12.out).2.2 x15_5 p182 q182
                                            obtain rfl : ad179 = ad182 := (by injection e182)
                                            obtain ⟨ce182, hce182, hMe182, hcc182⟩ := Kd.S_get HO_12.out z32 x15_5 p182 (by first | exact q182 | exact of_decide_eq_true (by first | (with_reducible assumption) | assumption) | (have e_ := (Kd.S_reads' HO_12.out).1; omega))
                                            obtain ⟨ve182_4, rfl, ge182_4⟩ := k32_openM hMe182
                                            have hv182_4 := hcc182 4 _ rfl
                                            rw [add_field _ _ 4 (by omega)] at hv182_4
                                            replace hv182_4 := Option.some.inj (hv182_4.symm.trans hx182_4)
                                            rw [hv182_4] at ge182_4
                                            have HL182_4 := Aside0.mk (show Kd.R Kd.string 9 _ _ _ _ ((rd_T32 t173 x15_5).f4) from ge182_4)
                                            clear hv182_4 ge182_4
                                            clear hcc182 hce182
                                            have HR182_4 := Aside0.mk hi182_4
                                            have HC182_4 := Aside0.mk hl182_4
                                            clear hi182_4 hl182_4
                                            replace p182 := eq_true p182
                                            replace q182 := eq_true q182
                                            refine start_ (n := 22) (S := fun w' => w'.cell? (ad178.add ((x13_4).toNat * 5)) = some (.string ((rd_T32 t170 x13_4).f0)) ∧ w'.cell? ⟨(ad178.add ((x13_4).toNat * 5)).block, (ad178.add ((x13_4).toNat * 5)).off + 1, none⟩ = some (.int .i64 ((rd_T32 t170 x13_4).f1)) ∧ w'.cell? ⟨(ad178.add ((x13_4).toNat * 5)).block, (ad178.add ((x13_4).toNat * 5)).off + 2, none⟩ = some (.int .i64 ((rd_T32 t170 x13_4).f2)) ∧ w'.cell? ⟨(ad178.add ((x13_4).toNat * 5)).block, (ad178.add ((x13_4).toNat * 5)).off + 3, none⟩ = some (.int .i64 ((rd_T32 t170 x13_4).f3)) ∧ w'.cell? ⟨(ad178.add ((x13_4).toNat * 5)).block, (ad178.add ((x13_4).toNat * 5)).off + 4, none⟩ = some (.slice A178_4 ((rd_T32 t170 x13_4).f4).length c178_4) ∧ w'.cell? (ad179.add ((x15_5).toNat * 5)) = some (.string ((rd_T32 t173 x15_5).f0)) ∧ w'.cell? ⟨(ad179.add ((x15_5).toNat * 5)).block, (ad179.add ((x15_5).toNat * 5)).off + 1, none⟩ = some (.int .i64 ((rd_T32 t173 x15_5).f1)) ∧ w'.cell? ⟨(ad179.add ((x15_5).toNat * 5)).block, (ad179.add ((x15_5).toNat * 5)).off + 2, none⟩ = some (.int .i64 ((rd_T32 t173 x15_5).f2)) ∧ w'.cell? ⟨(ad179.add ((x15_5).toNat * 5)).block, (ad179.add ((x15_5).toNat * 5)).off + 3, none⟩ = some (.int .i64 ((rd_T32 t173 x15_5).f3)) ∧ w'.cell? ⟨(ad179.add ((x15_5).toNat * 5)).block, (ad179.add ((x15_5).toNat * 5)).off + 4, none⟩ = some (.slice A179_4 ((rd_T32 t173 x15_5).f4).length c179_4) ∧ w'.cell? (ad178.add ((x13_4).toNat * 5)) = some (.string ((rd_T32 t170 x13_4).f0)) ∧ w'.cell? ⟨(ad178.add ((x13_4).toNat * 5)).block, (ad178.add ((x13_4).toNat * 5)).off + 1, none⟩ = some (.int .i64 ((rd_T32 t170 x13_4).f1)) ∧ w'.cell? ⟨(ad178.add ((x13_4).toNat * 5)).block, (ad178.add ((x13_4).toNat * 5)).off + 2, none⟩ = some (.int .i64 ((rd_T32 t170 x13_4).f2)) ∧ w'.cell? ⟨(ad178.add ((x13_4).toNat * 5)).block, (ad178.add ((x13_4).toNat * 5)).off + 3, none⟩ = some (.int .i64 ((rd_T32 t170 x13_4).f3)) ∧ w'.cell? ⟨(ad178.add ((x13_4).toNat * 5)).block, (ad178.add ((x13_4).toNat * 5)).off + 4, none⟩ = some (.slice A181_4 ((rd_T32 t170 x13_4).f4).length c181_4) ∧ w'.cell? (ad179.add ((x15_5).toNat * 5)) = some (.string ((rd_T32 t173 x15_5).f0)) ∧ w'.cell? ⟨(ad179.add ((x15_5).toNat * 5)).block, (ad179.add ((x15_5).toNat * 5)).off + 1, none⟩ = some (.int .i64 ((rd_T32 t173 x15_5).f1)) ∧ w'.cell? ⟨(ad179.add ((x15_5).toNat * 5)).block, (ad179.add ((x15_5).toNat * 5)).off + 2, none⟩ = some (.int .i64 ((rd_T32 t173 x15_5).f2)) ∧ w'.cell? ⟨(ad179.add ((x15_5).toNat * 5)).block, (ad179.add ((x15_5).toNat * 5)).off + 3, none⟩ = some (.int .i64 ((rd_T32 t173 x15_5).f3)) ∧ w'.cell? ⟨(ad179.add ((x15_5).toNat * 5)).block, (ad179.add ((x15_5).toNat * 5)).off + 4, none⟩ = some (.slice A182_4 ((rd_T32 t173 x15_5).f4).length c182_4)) (ds := []) #[false, false, false, false, false, false, false, false, false, false, false, false, false, false, false, false, false, false, false, false, false, false] (by kernel_rfl) rfl rfl ⟨hx178_0, hx178_1, hx178_2, hx178_3, hx178_4, hx179_0, hx179_1, hx179_2, hx179_3, hx179_4, hx181_0, hx181_1, hx181_2, hx181_3, hx181_4, hx182_0, hx182_1, hx182_2, hx182_3, hx182_4⟩ (fun hHeld => ?_); refine with_tabW ostiarylaw22_SetsTurned.tab25 ostiarylaw22_SetsTurned.bits25 (fun HT_ HW_ => ?_)
                                            generalize wr.drew = w62 at HO_11 HO_12 HB HL178_4 HL179_4 HL181_4 HL182_4 HR178_4 HR179_4 HR181_4 HR182_4 hx178_0 hx178_1 hx178_2 hx178_3 hx178_4 hx179_0 hx179_1 hx179_2 hx179_3 hx179_4 hx181_0 hx181_1 hx181_2 hx181_3 hx181_4 hx182_0 hx182_1 hx182_2 hx182_3 hx182_4 hHeld ⊢
                                            refine pure_ (i := 0) (N := some 101) (v := ?_) (a' := ?_) #[true, false, false, false, false, false, false, false, false, false, false, false, false, false, false, false, false, false, false, false, false, false] rfl rfl (any_of HT_.out (by kernel_rfl)) (fun _ _ _ h => h) (Or.inl ⟨by rfl, ?_⟩) ?_ ?_
                                            rotate_left
                                            · intro w'
                                              go_simp
                                              with_reducible rfl
                                            rotate_left
                                            · simp only [Act.put, List.setIfInBounds_toArray, List.set_cons_zero, List.set_cons_succ, i64_w, i32_w]
                                              rfl
                                            refine pure_ (i := 1) (N := some 102) (v := ?_) (a' := ?_) #[true, true, false, false, false, false, false, false, false, false, false, false, false, false, false, false, false, false, false, false, false, false] rfl rfl (any_of HT_.out (by kernel_rfl)) (fun _ _ _ h => h) (Or.inl ⟨by rfl, ?_⟩) ?_ ?_
                                            rotate_left
                                            · intro w'
                                              go_simp
                                              with_reducible rfl
                                            rotate_left
                                            · simp only [Act.put, List.setIfInBounds_toArray, List.set_cons_zero, List.set_cons_succ, i64_w, i32_w]
                                              rfl
                                            refine pure_ (i := 2) (N := some 103) (v := ?_) (a' := ?_) #[true, true, true, false, false, false, false, false, false, false, false, false, false, false, false, false, false, false, false, false, false, false] rfl rfl (any_of HT_.out (by kernel_rfl)) (fun _ _ _ h => h) (Or.inl ⟨by rfl, ?_⟩) ?_ ?_
                                            rotate_left
                                            · intro w'
                                              go_simp
                                              with_reducible rfl
                                            rotate_left
                                            · simp only [Act.put, List.setIfInBounds_toArray, List.set_cons_zero, List.set_cons_succ, i64_w, i32_w]
                                              rfl
                                            refine pure_ (i := 4) (N := some 105) (v := ?_) (a' := ?_) #[true, true, true, false, true, false, false, false, false, false, false, false, false, false, false, false, false, false, false, false, false, false] rfl rfl (any_of HT_.out (by kernel_rfl)) (fun _ _ _ h => h) (Or.inl ⟨by rfl, ?_⟩) ?_ ?_
                                            rotate_left
                                            · intro w'
                                              go_simp
                                              with_reducible rfl
                                            rotate_left
                                            · simp only [Act.put, List.setIfInBounds_toArray, List.set_cons_zero, List.set_cons_succ, i64_w, i32_w]
                                              rfl
                                            refine pure_ (i := 5) (N := some 106) (v := ?_) (a' := ?_) #[true, true, true, false, true, true, false, false, false, false, false, false, false, false, false, false, false, false, false, false, false, false] rfl rfl (any_of HT_.out (by kernel_rfl)) (fun _ _ _ h => h) (Or.inl ⟨by rfl, ?_⟩) ?_ ?_
                                            rotate_left
                                            · intro w'
                                              go_simp
                                              with_reducible rfl
                                            rotate_left
                                            · simp only [Act.put, List.setIfInBounds_toArray, List.set_cons_zero, List.set_cons_succ, i64_w, i32_w]
                                              rfl
                                            refine pure_ (i := 6) (N := some 107) (v := ?_) (a' := ?_) #[true, true, true, false, true, true, true, false, false, false, false, false, false, false, false, false, false, false, false, false, false, false] rfl rfl (any_of HT_.out (by kernel_rfl)) (fun _ _ _ h => h) (Or.inl ⟨by rfl, ?_⟩) ?_ ?_
                                            rotate_left
                                            · intro w'
                                              go_simp
                                              with_reducible rfl
                                            rotate_left
                                            · simp only [Act.put, List.setIfInBounds_toArray, List.set_cons_zero, List.set_cons_succ, i64_w, i32_w]
                                              rfl
                                            refine take_ (i := 3) (N := some 104) (v := ?_) (a' := ?_) #[true, true, true, true, true, true, true, false, false, false, false, false, false, false, false, false, false, false, false, false, false, false] rfl rfl (take_ofW HT_.out HW_.out (by kernel_rfl)) (fun _ _ _ h => h) (Or.inl ⟨by rfl, ?_⟩) hHeld ?_ ?_
                                            rotate_left
                                            · rintro w' ⟨s0, s1, s2, s3, s4, s5, s6, s7, s8, s9, s10, s11, s12, s13, s14, s15, s16, s17, s18, s19⟩
                                              go_simp
                                              with_reducible rfl
                                            rotate_left
                                            · simp only [Act.put, List.setIfInBounds_toArray, List.set_cons_zero, List.set_cons_succ, i64_w, i32_w]
                                              rfl
                                            refine take_ (i := 7) (N := some 108) (v := ?_) (a' := ?_) #[true, true, true, true, true, true, true, true, false, false, false, false, false, false, false, false, false, false, false, false, false, false] rfl rfl (take_ofW HT_.out HW_.out (by kernel_rfl)) (fun _ _ _ h => h) (Or.inl ⟨by rfl, ?_⟩) hHeld ?_ ?_
                                            rotate_left
                                            · rintro w' ⟨s0, s1, s2, s3, s4, s5, s6, s7, s8, s9, s10, s11, s12, s13, s14, s15, s16, s17, s18, s19⟩
                                              go_simp
                                              with_reducible rfl
                                            rotate_left
                                            · simp only [Act.put, List.setIfInBounds_toArray, List.set_cons_zero, List.set_cons_succ, i64_w, i32_w]
                                              rfl
                                            refine one_ (i := 8) (N := some 109) #[true, true, true, true, true, true, true, true, true, false, false, false, false, false, false, false, false, false, false, false, false, false] rfl rfl (one_of HT_.out (by kernel_rfl)) (by decide) (fun K hK => ?_)
                                            refine goes_ Try.func27 (by kernel_rfl) rfl #[.agg #[.string ((rd_T32 t170 x13_4).f0), .int .i64 ((rd_T32 t170 x13_4).f1), .int .i64 ((rd_T32 t170 x13_4).f2), .int .i64 ((rd_T32 t170 x13_4).f3), .slice A178_4 ((rd_T32 t170 x13_4).f4).length c178_4], .agg #[.string ((rd_T32 t173 x15_5).f0), .int .i64 ((rd_T32 t173 x15_5).f1), .int .i64 ((rd_T32 t173 x15_5).f2), .int .i64 ((rd_T32 t173 x15_5).f3), .slice A179_4 ((rd_T32 t173 x15_5).f4).length c179_4]] (by rfl) rfl rfl (by (try simp only [List.map_toArray, List.map_cons, List.map_nil]); first | done | rfl | (simp only [List.length_drop, List.length_take]; rfl)) ?_
                                            with_reducible refine (sets_Same.calls ((rd_T32 t170 x13_4).f0) ((rd_T32 t170 x13_4).f1) ((rd_T32 t170 x13_4).f2) ((rd_T32 t170 x13_4).f3) _ _ ((rd_T32 t170 x13_4).f4) ((rd_T32 t173 x15_5).f0) ((rd_T32 t173 x15_5).f1) ((rd_T32 t173 x15_5).f2) ((rd_T32 t173 x15_5).f3) _ _ ((rd_T32 t173 x15_5).f4) true _ ?side1 ?side2 ?side3 ?side4 A57.out).mono ?_
                                            (case side1 => repeat (first | exact (by repeat (first | (with_reducible exact HR178_4.out) | (with_reducible refine Kd.C_alloc ?_ _) | (with_reducible refine Kd.C_drewN ?_ _) | (with_reducible refine Kd.C_drew ?_) | exact HR178_4.out)) | (with_reducible refine Kd.C_alloc ?_ _) | (with_reducible refine Kd.C_drewN ?_ _) | (with_reducible refine Kd.C_drew ?_)))
                                            (case side2 => exact HC178_4.out)
                                            (case side3 => repeat (first | exact (by repeat (first | (with_reducible exact HR179_4.out) | (with_reducible refine Kd.C_alloc ?_ _) | (with_reducible refine Kd.C_drewN ?_ _) | (with_reducible refine Kd.C_drew ?_) | exact HR179_4.out)) | (with_reducible refine Kd.C_alloc ?_ _) | (with_reducible refine Kd.C_drewN ?_ _) | (with_reducible refine Kd.C_drew ?_)))
                                            (case side4 => exact HC179_4.out)
                                            rintro e w63 ⟨rfl, hb⟩
                                            have HS0_ := (hb.cell (World.block_lt_of_cell? _ _ (hHeld.1))).trans (hHeld.1)
                                            have HS1_ := (hb.cell (World.block_lt_of_cell? _ _ (hHeld.2.1))).trans (hHeld.2.1)
                                            have HS2_ := (hb.cell (World.block_lt_of_cell? _ _ (hHeld.2.2.1))).trans (hHeld.2.2.1)
                                            have HS3_ := (hb.cell (World.block_lt_of_cell? _ _ (hHeld.2.2.2.1))).trans (hHeld.2.2.2.1)
                                            have HS4_ := (hb.cell (World.block_lt_of_cell? _ _ (hHeld.2.2.2.2.1))).trans (hHeld.2.2.2.2.1)
                                            have HS5_ := (hb.cell (World.block_lt_of_cell? _ _ (hHeld.2.2.2.2.2.1))).trans (hHeld.2.2.2.2.2.1)
                                            have HS6_ := (hb.cell (World.block_lt_of_cell? _ _ (hHeld.2.2.2.2.2.2.1))).trans (hHeld.2.2.2.2.2.2.1)
                                            have HS7_ := (hb.cell (World.block_lt_of_cell? _ _ (hHeld.2.2.2.2.2.2.2.1))).trans (hHeld.2.2.2.2.2.2.2.1)
                                            have HS8_ := (hb.cell (World.block_lt_of_cell? _ _ (hHeld.2.2.2.2.2.2.2.2.1))).trans (hHeld.2.2.2.2.2.2.2.2.1)
                                            have HS9_ := (hb.cell (World.block_lt_of_cell? _ _ (hHeld.2.2.2.2.2.2.2.2.2.1))).trans (hHeld.2.2.2.2.2.2.2.2.2.1)
                                            have HS10_ := (hb.cell (World.block_lt_of_cell? _ _ (hHeld.2.2.2.2.2.2.2.2.2.2.1))).trans (hHeld.2.2.2.2.2.2.2.2.2.2.1)
                                            have HS11_ := (hb.cell (World.block_lt_of_cell? _ _ (hHeld.2.2.2.2.2.2.2.2.2.2.2.1))).trans (hHeld.2.2.2.2.2.2.2.2.2.2.2.1)
                                            have HS12_ := (hb.cell (World.block_lt_of_cell? _ _ (hHeld.2.2.2.2.2.2.2.2.2.2.2.2.1))).trans (hHeld.2.2.2.2.2.2.2.2.2.2.2.2.1)
                                            have HS13_ := (hb.cell (World.block_lt_of_cell? _ _ (hHeld.2.2.2.2.2.2.2.2.2.2.2.2.2.1))).trans (hHeld.2.2.2.2.2.2.2.2.2.2.2.2.2.1)
                                            have HS14_ := (hb.cell (World.block_lt_of_cell? _ _ (hHeld.2.2.2.2.2.2.2.2.2.2.2.2.2.2.1))).trans (hHeld.2.2.2.2.2.2.2.2.2.2.2.2.2.2.1)
                                            have HS15_ := (hb.cell (World.block_lt_of_cell? _ _ (hHeld.2.2.2.2.2.2.2.2.2.2.2.2.2.2.2.1))).trans (hHeld.2.2.2.2.2.2.2.2.2.2.2.2.2.2.2.1)
                                            have HS16_ := (hb.cell (World.block_lt_of_cell? _ _ (hHeld.2.2.2.2.2.2.2.2.2.2.2.2.2.2.2.2.1))).trans (hHeld.2.2.2.2.2.2.2.2.2.2.2.2.2.2.2.2.1)
                                            have HS17_ := (hb.cell (World.block_lt_of_cell? _ _ (hHeld.2.2.2.2.2.2.2.2.2.2.2.2.2.2.2.2.2.1))).trans (hHeld.2.2.2.2.2.2.2.2.2.2.2.2.2.2.2.2.2.1)
                                            have HS18_ := (hb.cell (World.block_lt_of_cell? _ _ (hHeld.2.2.2.2.2.2.2.2.2.2.2.2.2.2.2.2.2.2.1))).trans (hHeld.2.2.2.2.2.2.2.2.2.2.2.2.2.2.2.2.2.2.1)
                                            have HS19_ := (hb.cell (World.block_lt_of_cell? _ _ (hHeld.2.2.2.2.2.2.2.2.2.2.2.2.2.2.2.2.2.2.2))).trans (hHeld.2.2.2.2.2.2.2.2.2.2.2.2.2.2.2.2.2.2.2)
                                            refine ⟨_, rfl, ?_⟩
                                            have n0_ := Aside0.mk (Kd.S_below (by (with_reducible repeat (first | apply Kd.S_alloc | apply Kd.S_drewN | apply Kd.S_drew)); exact HO_11.out) hb)
                                            have n1_ := Aside0.mk (Kd.S_below (by (with_reducible repeat (first | apply Kd.S_alloc | apply Kd.S_drewN | apply Kd.S_drew)); exact HO_12.out) hb)
                                            have n2_ := Aside0.mk (Kd.R_below (by (with_reducible repeat (first | apply Kd.R_alloc | apply Kd.R_drewN | apply Kd.R_drew)); exact HL178_4.out) hb)
                                            have n3_ := Aside0.mk (Kd.R_below (by (with_reducible repeat (first | apply Kd.R_alloc | apply Kd.R_drewN | apply Kd.R_drew)); exact HL179_4.out) hb)
                                            have n4_ := Aside0.mk (Kd.C_below (by repeat (first | (with_reducible exact HR178_4.out) | (with_reducible refine Kd.C_alloc ?_ _) | (with_reducible refine Kd.C_drewN ?_ _) | (with_reducible refine Kd.C_drew ?_) | exact HR178_4.out)) hb)
                                            have n5_ := Aside0.mk (Kd.C_below (by repeat (first | (with_reducible exact HR179_4.out) | (with_reducible refine Kd.C_alloc ?_ _) | (with_reducible refine Kd.C_drewN ?_ _) | (with_reducible refine Kd.C_drew ?_) | exact HR179_4.out)) hb)
                                            have n6_ := Aside0.mk (below_step (by repeat (first | (with_reducible first | exact HB.out | apply below_alloc | apply pw_below_drewN | apply below_drew1) | exact HB.out)) hb)
                                            clear HO_11
                                            clear HO_12
                                            clear HL178_4
                                            clear HL179_4
                                            clear HR178_4
                                            clear HR179_4
                                            clear HB
                                            have HO_11 := n0_
                                            have HO_12 := n1_
                                            have HL178_4 := n2_
                                            have HL179_4 := n3_
                                            have HR178_4 := n4_
                                            have HR179_4 := n5_
                                            have HB := n6_
                                            clear n0_ n1_ n2_ n3_ n4_ n5_ n6_
                                            (try clear hb)
                                            (try clear hb2)
                                            (try clear hk)
                                            (try clear hi)
                                            refine hK.out _ _ ⟨HS0_, HS1_, HS2_, HS3_, HS4_, HS5_, HS6_, HS7_, HS8_, HS9_, HS10_, HS11_, HS12_, HS13_, HS14_, HS15_, HS16_, HS17_, HS18_, HS19_⟩ (fun hHeld => ?_)
                                            clear hK K
                                            refine norm_ (a' := ?_) ?_ ?_
                                            rotate_left
                                            · show Act.put _ (some 109) _ = _
                                              simp only [Act.put, List.setIfInBounds_toArray, List.set_cons_zero, List.set_cons_succ, i64_w, i32_w]
                                              rfl
                                            refine pure_ (i := 9) (N := some 110) (v := ?_) (a' := ?_) #[true, true, true, true, true, true, true, true, true, true, false, false, false, false, false, false, false, false, false, false, false, false] rfl rfl (any_of HT_.out (by kernel_rfl)) (fun _ _ _ h => h) (Or.inl ⟨by rfl, ?_⟩) ?_ ?_
                                            rotate_left
                                            · intro w'
                                              go_simp
                                              with_reducible rfl
                                            rotate_left
                                            · simp only [Act.put, List.setIfInBounds_toArray, List.set_cons_zero, List.set_cons_succ, i64_w, i32_w]
                                              rfl
                                            refine pure_ (i := 10) (N := some 111) (v := ?_) (a' := ?_) #[true, true, true, true, true, true, true, true, true, true, true, false, false, false, false, false, false, false, false, false, false, false] rfl rfl (any_of HT_.out (by kernel_rfl)) (fun _ _ _ h => h) (Or.inl ⟨by rfl, ?_⟩) ?_ ?_
                                            rotate_left
                                            · intro w'
                                              go_simp
                                              with_reducible rfl
                                            rotate_left
                                            · simp only [Act.put, List.setIfInBounds_toArray, List.set_cons_zero, List.set_cons_succ, i64_w, i32_w]
                                              rfl
                                            refine pure_ (i := 11) (N := some 112) (v := ?_) (a' := ?_) #[true, true, true, true, true, true, true, true, true, true, true, true, false, false, false, false, false, false, false, false, false, false] rfl rfl (any_of HT_.out (by kernel_rfl)) (fun _ _ _ h => h) (Or.inl ⟨by rfl, ?_⟩) ?_ ?_
                                            rotate_left
                                            · intro w'
                                              go_simp
                                              with_reducible rfl
                                            rotate_left
                                            · simp only [Act.put, List.setIfInBounds_toArray, List.set_cons_zero, List.set_cons_succ, i64_w, i32_w]
                                              rfl
                                            refine pure_ (i := 12) (N := some 113) (v := ?_) (a' := ?_) #[true, true, true, true, true, true, true, true, true, true, true, true, true, false, false, false, false, false, false, false, false, false] rfl rfl (any_of HT_.out (by kernel_rfl)) (fun _ _ _ h => h) (Or.inl ⟨by rfl, ?_⟩) ?_ ?_
                                            rotate_left
                                            · intro w'
                                              go_simp
                                              with_reducible rfl
                                            rotate_left
                                            · simp only [Act.put, List.setIfInBounds_toArray, List.set_cons_zero, List.set_cons_succ, i64_w, i32_w]
                                              rfl
                                            refine pure_ (i := 13) (N := some 114) (v := ?_) (a' := ?_) #[true, true, true, true, true, true, true, true, true, true, true, true, true, true, false, false, false, false, false, false, false, false] rfl rfl (any_of HT_.out (by kernel_rfl)) (fun _ _ _ h => h) (Or.inl ⟨by rfl, ?_⟩) ?_ ?_
                                            rotate_left
                                            · intro w'
                                              go_simp
                                              with_reducible rfl
                                            rotate_left
                                            · simp only [Act.put, List.setIfInBounds_toArray, List.set_cons_zero, List.set_cons_succ, i64_w, i32_w]
                                              rfl
                                            refine pure_ (i := 15) (N := some 116) (v := ?_) (a' := ?_) #[true, true, true, true, true, true, true, true, true, true, true, true, true, true, false, true, false, false, false, false, false, false] rfl rfl (any_of HT_.out (by kernel_rfl)) (fun _ _ _ h => h) (Or.inl ⟨by rfl, ?_⟩) ?_ ?_
                                            rotate_left
                                            · intro w'
                                              go_simp
                                              with_reducible rfl
                                            rotate_left
                                            · simp only [Act.put, List.setIfInBounds_toArray, List.set_cons_zero, List.set_cons_succ, i64_w, i32_w]
                                              rfl
                                            refine pure_ (i := 16) (N := some 117) (v := ?_) (a' := ?_) #[true, true, true, true, true, true, true, true, true, true, true, true, true, true, false, true, true, false, false, false, false, false] rfl rfl (any_of HT_.out (by kernel_rfl)) (fun _ _ _ h => h) (Or.inl ⟨by rfl, ?_⟩) ?_ ?_
                                            rotate_left
                                            · intro w'
                                              go_simp
                                              with_reducible rfl
                                            rotate_left
                                            · simp only [Act.put, List.setIfInBounds_toArray, List.set_cons_zero, List.set_cons_succ, i64_w, i32_w]
                                              rfl
                                            refine pure_ (i := 17) (N := some 118) (v := ?_) (a' := ?_) #[true, true, true, true, true, true, true, true, true, true, true, true, true, true, false, true, true, true, false, false, false, false] rfl rfl (any_of HT_.out (by kernel_rfl)) (fun _ _ _ h => h) (Or.inl ⟨by rfl, ?_⟩) ?_ ?_
                                            rotate_left
                                            · intro w'
                                              go_simp
                                              with_reducible rfl
                                            rotate_left
                                            · simp only [Act.put, List.setIfInBounds_toArray, List.set_cons_zero, List.set_cons_succ, i64_w, i32_w]
                                              rfl
                                            refine pure_ (i := 18) (N := some 119) (v := ?_) (a' := ?_) #[true, true, true, true, true, true, true, true, true, true, true, true, true, true, false, true, true, true, true, false, false, false] rfl rfl (any_of HT_.out (by kernel_rfl)) (fun _ _ _ h => h) (Or.inl ⟨by rfl, ?_⟩) ?_ ?_
                                            rotate_left
                                            · intro w'
                                              go_simp
                                              with_reducible rfl
                                            rotate_left
                                            · simp only [Act.put, List.setIfInBounds_toArray, List.set_cons_zero, List.set_cons_succ, i64_w, i32_w]
                                              rfl
                                            refine take_ (i := 14) (N := some 115) (v := ?_) (a' := ?_) #[true, true, true, true, true, true, true, true, true, true, true, true, true, true, true, true, true, true, true, false, false, false] rfl rfl (take_ofW HT_.out HW_.out (by kernel_rfl)) (fun _ _ _ h => h) (Or.inl ⟨by rfl, ?_⟩) hHeld ?_ ?_
                                            rotate_left
                                            · rintro w' ⟨s0, s1, s2, s3, s4, s5, s6, s7, s8, s9, s10, s11, s12, s13, s14, s15, s16, s17, s18, s19⟩
                                              go_simp
                                              with_reducible rfl
                                            rotate_left
                                            · simp only [Act.put, List.setIfInBounds_toArray, List.set_cons_zero, List.set_cons_succ, i64_w, i32_w]
                                              rfl
                                            refine take_ (i := 19) (N := some 120) (v := ?_) (a' := ?_) #[true, true, true, true, true, true, true, true, true, true, true, true, true, true, true, true, true, true, true, true, false, false] rfl rfl (take_ofW HT_.out HW_.out (by kernel_rfl)) (fun _ _ _ h => h) (Or.inl ⟨by rfl, ?_⟩) hHeld ?_ ?_
                                            rotate_left
                                            · rintro w' ⟨s0, s1, s2, s3, s4, s5, s6, s7, s8, s9, s10, s11, s12, s13, s14, s15, s16, s17, s18, s19⟩
                                              go_simp
                                              with_reducible rfl
                                            rotate_left
                                            · simp only [Act.put, List.setIfInBounds_toArray, List.set_cons_zero, List.set_cons_succ, i64_w, i32_w]
                                              rfl
                                            refine pure_ (i := 20) (N := some 121) (v := ?_) (a' := ?_) #[true, true, true, true, true, true, true, true, true, true, true, true, true, true, true, true, true, true, true, true, true, false] rfl rfl (any_of HT_.out (by kernel_rfl)) (fun _ _ _ h => h) (Or.inl ⟨by rfl, ?_⟩) ?_ ?_
                                            rotate_left
                                            · intro w'
                                              go_simp
                                              with_reducible rfl
                                            rotate_left
                                            · simp only [Act.put, List.setIfInBounds_toArray, List.set_cons_zero, List.set_cons_succ, i64_w, i32_w]
                                              rfl
                                            refine pure_ (i := 21) (N := some 122) (v := ?_) (a' := ?_) #[true, true, true, true, true, true, true, true, true, true, true, true, true, true, true, true, true, true, true, true, true, true] rfl rfl (any_of HT_.out (by kernel_rfl)) (fun _ _ _ h => h) (Or.inl ⟨by rfl, ?_⟩) ?_ ?_
                                            rotate_left
                                            · intro w'
                                              go_simp
                                              with_reducible rfl
                                            rotate_left
                                            · simp only [Act.put, List.setIfInBounds_toArray, List.set_cons_zero, List.set_cons_succ, i64_w, i32_w]
                                              rfl
                                            refine done_ (done_of HT_.out (by kernel_rfl)) ?_
                                            try go_wp2
                                            go_roundg k5
                                            case measure => have := HJ3.out; have := HK2.out; have := HJ21.out; have := HK4.out; have := HK5.out; omega
                                            case rel => exact ⟨(x14_5), (wrap64 (x15_5 + 1)), (by first | rfl | (simp; done) | (simp [*]; done)), (by first | rfl | (simp; done) | (simp [*]; done)), H', ⟨by have := HJ3.out; have := HK2.out; have := HJ21.out; have := HK4.out; have := HK5.out; omega⟩, ⟨by (with_reducible repeat (first | apply Kd.S_alloc | apply Kd.S_drewN | apply Kd.S_drew)); exact HO_11.out⟩, ⟨by (with_reducible repeat (first | apply Kd.S_alloc | apply Kd.S_drewN | apply Kd.S_drew)); exact HO_12.out⟩, ⟨by repeat (first | (with_reducible first | exact HB.out | apply below_alloc | apply pw_below_drewN | apply below_drew1) | exact HB.out)⟩⟩
                                        · replace c58 := Bool.eq_false_iff.mpr c58
                                          subst c58
                                          have H1 : (ostiarylaw22_SetsTurned.l3 k5 t151 t170 t173 x13_4 x14_5 (wrap64 (x15_5 + 1))) = some r := by rw [if_neg (show ¬ (false = true) by decide)] at H; exact H
                                          clear H
                                          have H := H1
                                          clear H1
                                          have H' := Aside0.mk H
                                          clear H
                                          try go_wp2
                                          have n0_ := Aside0.mk (Kd.S_drew HO_11.out)
                                          have n1_ := Aside0.mk (Kd.S_drew HO_12.out)
                                          have n2_ := Aside0.mk (below_drew1 HB.out)
                                          clear HO_11
                                          clear HO_12
                                          clear HB
                                          have HO_11 := n0_
                                          have HO_12 := n1_
                                          have HB := n2_
                                          clear n0_ n1_ n2_
                                          have p178 : 0 ≤ (x13_4 : Int) := of_decide_eq_true (by first | (with_reducible assumption) | assumption)
                                          have q178 : x13_4 < (t170.length : Int) := of_decide_eq_true (by first | (with_reducible assumption) | assumption)
                                          obtain ⟨ad178, A178_4, c178_4, e178, hx178_0, hx178_1, hx178_2, hx178_3, hx178_4, hl178_4, hi178_4⟩ := at_T32 (Kd.S_reads' HO_11.out).2.2 x13_4 p178 q178
                                          cases e178
                                          obtain ⟨ce178, hce178, hMe178, hcc178⟩ := Kd.S_get HO_11.out z32 x13_4 p178 (by first | exact q178 | exact of_decide_eq_true (by first | (with_reducible assumption) | assumption) | (have e_ := (Kd.S_reads' HO_11.out).1; omega))
                                          obtain ⟨ve178_4, rfl, ge178_4⟩ := k32_openM hMe178
                                          have hv178_4 := hcc178 4 _ rfl
                                          rw [add_field _ _ 4 (by omega)] at hv178_4
                                          replace hv178_4 := Option.some.inj (hv178_4.symm.trans hx178_4)
                                          rw [hv178_4] at ge178_4
                                          have HL178_4 := Aside0.mk (show Kd.R Kd.string 9 _ _ _ _ ((rd_T32 t170 x13_4).f4) from ge178_4)
                                          clear hv178_4 ge178_4
                                          clear hcc178 hce178
                                          have HR178_4 := Aside0.mk hi178_4
                                          have HC178_4 := Aside0.mk hl178_4
                                          clear hi178_4 hl178_4
                                          replace p178 := eq_true p178
                                          replace q178 := eq_true q178
                                          have p179 : 0 ≤ (x15_5 : Int) := of_decide_eq_true (by first | (with_reducible assumption) | assumption)
                                          have q179 : x15_5 < (t173.length : Int) := of_decide_eq_true (by first | (with_reducible assumption) | assumption)
                                          obtain ⟨ad179, A179_4, c179_4, e179, hx179_0, hx179_1, hx179_2, hx179_3, hx179_4, hl179_4, hi179_4⟩ := at_T32 (Kd.S_reads' HO_12.out).2.2 x15_5 p179 q179
                                          cases e179
                                          obtain ⟨ce179, hce179, hMe179, hcc179⟩ := Kd.S_get HO_12.out z32 x15_5 p179 (by first | exact q179 | exact of_decide_eq_true (by first | (with_reducible assumption) | assumption) | (have e_ := (Kd.S_reads' HO_12.out).1; omega))
                                          obtain ⟨ve179_4, rfl, ge179_4⟩ := k32_openM hMe179
                                          have hv179_4 := hcc179 4 _ rfl
                                          rw [add_field _ _ 4 (by omega)] at hv179_4
                                          replace hv179_4 := Option.some.inj (hv179_4.symm.trans hx179_4)
                                          rw [hv179_4] at ge179_4
                                          have HL179_4 := Aside0.mk (show Kd.R Kd.string 9 _ _ _ _ ((rd_T32 t173 x15_5).f4) from ge179_4)
                                          clear hv179_4 ge179_4
                                          clear hcc179 hce179
                                          have HR179_4 := Aside0.mk hi179_4
                                          have HC179_4 := Aside0.mk hl179_4
                                          clear hi179_4 hl179_4
                                          replace p179 := eq_true p179
                                          replace q179 := eq_true q179
                                          refine start_ (n := 22) (S := fun w' => w'.cell? (ad178.add ((x13_4).toNat * 5)) = some (.string ((rd_T32 t170 x13_4).f0)) ∧ w'.cell? ⟨(ad178.add ((x13_4).toNat * 5)).block, (ad178.add ((x13_4).toNat * 5)).off + 1, none⟩ = some (.int .i64 ((rd_T32 t170 x13_4).f1)) ∧ w'.cell? ⟨(ad178.add ((x13_4).toNat * 5)).block, (ad178.add ((x13_4).toNat * 5)).off + 2, none⟩ = some (.int .i64 ((rd_T32 t170 x13_4).f2)) ∧ w'.cell? ⟨(ad178.add ((x13_4).toNat * 5)).block, (ad178.add ((x13_4).toNat * 5)).off + 3, none⟩ = some (.int .i64 ((rd_T32 t170 x13_4).f3)) ∧ w'.cell? ⟨(ad178.add ((x13_4).toNat * 5)).block, (ad178.add ((x13_4).toNat * 5)).off + 4, none⟩ = some (.slice A178_4 ((rd_T32 t170 x13_4).f4).length c178_4) ∧ w'.cell? (ad179.add ((x15_5).toNat * 5)) = some (.string ((rd_T32 t173 x15_5).f0)) ∧ w'.cell? ⟨(ad179.add ((x15_5).toNat * 5)).block, (ad179.add ((x15_5).toNat * 5)).off + 1, none⟩ = some (.int .i64 ((rd_T32 t173 x15_5).f1)) ∧ w'.cell? ⟨(ad179.add ((x15_5).toNat * 5)).block, (ad179.add ((x15_5).toNat * 5)).off + 2, none⟩ = some (.int .i64 ((rd_T32 t173 x15_5).f2)) ∧ w'.cell? ⟨(ad179.add ((x15_5).toNat * 5)).block, (ad179.add ((x15_5).toNat * 5)).off + 3, none⟩ = some (.int .i64 ((rd_T32 t173 x15_5).f3)) ∧ w'.cell? ⟨(ad179.add ((x15_5).toNat * 5)).block, (ad179.add ((x15_5).toNat * 5)).off + 4, none⟩ = some (.slice A179_4 ((rd_T32 t173 x15_5).f4).length c179_4)) (ds := []) #[false, false, false, false, false, false, false, false, false, false, false, false, false, false, false, false, false, false, false, false, false, false] (by kernel_rfl) rfl rfl ⟨hx178_0, hx178_1, hx178_2, hx178_3, hx178_4, hx179_0, hx179_1, hx179_2, hx179_3, hx179_4⟩ (fun hHeld => ?_); refine with_tabW ostiarylaw22_SetsTurned.tab25 ostiarylaw22_SetsTurned.bits25 (fun HT_ HW_ => ?_)
                                          generalize wr.drew = w64 at HO_11 HO_12 HB HL178_4 HL179_4 HR178_4 HR179_4 hx178_0 hx178_1 hx178_2 hx178_3 hx178_4 hx179_0 hx179_1 hx179_2 hx179_3 hx179_4 hHeld ⊢
                                          refine pure_ (i := 0) (N := some 101) (v := ?_) (a' := ?_) #[true, false, false, false, false, false, false, false, false, false, false, false, false, false, false, false, false, false, false, false, false, false] rfl rfl (any_of HT_.out (by kernel_rfl)) (fun _ _ _ h => h) (Or.inl ⟨by rfl, ?_⟩) ?_ ?_
                                          rotate_left
                                          · intro w'
                                            go_simp
                                            with_reducible rfl
                                          rotate_left
                                          · simp only [Act.put, List.setIfInBounds_toArray, List.set_cons_zero, List.set_cons_succ, i64_w, i32_w]
                                            rfl
                                          refine pure_ (i := 1) (N := some 102) (v := ?_) (a' := ?_) #[true, true, false, false, false, false, false, false, false, false, false, false, false, false, false, false, false, false, false, false, false, false] rfl rfl (any_of HT_.out (by kernel_rfl)) (fun _ _ _ h => h) (Or.inl ⟨by rfl, ?_⟩) ?_ ?_
                                          rotate_left
                                          · intro w'
                                            go_simp
                                            with_reducible rfl
                                          rotate_left
                                          · simp only [Act.put, List.setIfInBounds_toArray, List.set_cons_zero, List.set_cons_succ, i64_w, i32_w]
                                            rfl
                                          refine pure_ (i := 2) (N := some 103) (v := ?_) (a' := ?_) #[true, true, true, false, false, false, false, false, false, false, false, false, false, false, false, false, false, false, false, false, false, false] rfl rfl (any_of HT_.out (by kernel_rfl)) (fun _ _ _ h => h) (Or.inl ⟨by rfl, ?_⟩) ?_ ?_
                                          rotate_left
                                          · intro w'
                                            go_simp
                                            with_reducible rfl
                                          rotate_left
                                          · simp only [Act.put, List.setIfInBounds_toArray, List.set_cons_zero, List.set_cons_succ, i64_w, i32_w]
                                            rfl
                                          refine pure_ (i := 4) (N := some 105) (v := ?_) (a' := ?_) #[true, true, true, false, true, false, false, false, false, false, false, false, false, false, false, false, false, false, false, false, false, false] rfl rfl (any_of HT_.out (by kernel_rfl)) (fun _ _ _ h => h) (Or.inl ⟨by rfl, ?_⟩) ?_ ?_
                                          rotate_left
                                          · intro w'
                                            go_simp
                                            with_reducible rfl
                                          rotate_left
                                          · simp only [Act.put, List.setIfInBounds_toArray, List.set_cons_zero, List.set_cons_succ, i64_w, i32_w]
                                            rfl
                                          refine pure_ (i := 5) (N := some 106) (v := ?_) (a' := ?_) #[true, true, true, false, true, true, false, false, false, false, false, false, false, false, false, false, false, false, false, false, false, false] rfl rfl (any_of HT_.out (by kernel_rfl)) (fun _ _ _ h => h) (Or.inl ⟨by rfl, ?_⟩) ?_ ?_
                                          rotate_left
                                          · intro w'
                                            go_simp
                                            with_reducible rfl
                                          rotate_left
                                          · simp only [Act.put, List.setIfInBounds_toArray, List.set_cons_zero, List.set_cons_succ, i64_w, i32_w]
                                            rfl
                                          refine pure_ (i := 6) (N := some 107) (v := ?_) (a' := ?_) #[true, true, true, false, true, true, true, false, false, false, false, false, false, false, false, false, false, false, false, false, false, false] rfl rfl (any_of HT_.out (by kernel_rfl)) (fun _ _ _ h => h) (Or.inl ⟨by rfl, ?_⟩) ?_ ?_
                                          rotate_left
                                          · intro w'
                                            go_simp
                                            with_reducible rfl
                                          rotate_left
                                          · simp only [Act.put, List.setIfInBounds_toArray, List.set_cons_zero, List.set_cons_succ, i64_w, i32_w]
                                            rfl
                                          refine take_ (i := 3) (N := some 104) (v := ?_) (a' := ?_) #[true, true, true, true, true, true, true, false, false, false, false, false, false, false, false, false, false, false, false, false, false, false] rfl rfl (take_ofW HT_.out HW_.out (by kernel_rfl)) (fun _ _ _ h => h) (Or.inl ⟨by rfl, ?_⟩) hHeld ?_ ?_
                                          rotate_left
                                          · rintro w' ⟨s0, s1, s2, s3, s4, s5, s6, s7, s8, s9⟩
                                            go_simp
                                            with_reducible rfl
                                          rotate_left
                                          · simp only [Act.put, List.setIfInBounds_toArray, List.set_cons_zero, List.set_cons_succ, i64_w, i32_w]
                                            rfl
                                          refine take_ (i := 7) (N := some 108) (v := ?_) (a' := ?_) #[true, true, true, true, true, true, true, true, false, false, false, false, false, false, false, false, false, false, false, false, false, false] rfl rfl (take_ofW HT_.out HW_.out (by kernel_rfl)) (fun _ _ _ h => h) (Or.inl ⟨by rfl, ?_⟩) hHeld ?_ ?_
                                          rotate_left
                                          · rintro w' ⟨s0, s1, s2, s3, s4, s5, s6, s7, s8, s9⟩
                                            go_simp
                                            with_reducible rfl
                                          rotate_left
                                          · simp only [Act.put, List.setIfInBounds_toArray, List.set_cons_zero, List.set_cons_succ, i64_w, i32_w]
                                            rfl
                                          refine one_ (i := 8) (N := some 109) #[true, true, true, true, true, true, true, true, true, false, false, false, false, false, false, false, false, false, false, false, false, false] rfl rfl (one_of HT_.out (by kernel_rfl)) (by decide) (fun K hK => ?_)
                                          refine goes_ Try.func27 (by kernel_rfl) rfl #[.agg #[.string ((rd_T32 t170 x13_4).f0), .int .i64 ((rd_T32 t170 x13_4).f1), .int .i64 ((rd_T32 t170 x13_4).f2), .int .i64 ((rd_T32 t170 x13_4).f3), .slice A178_4 ((rd_T32 t170 x13_4).f4).length c178_4], .agg #[.string ((rd_T32 t173 x15_5).f0), .int .i64 ((rd_T32 t173 x15_5).f1), .int .i64 ((rd_T32 t173 x15_5).f2), .int .i64 ((rd_T32 t173 x15_5).f3), .slice A179_4 ((rd_T32 t173 x15_5).f4).length c179_4]] (by rfl) rfl rfl (by (try simp only [List.map_toArray, List.map_cons, List.map_nil]); first | done | rfl | (simp only [List.length_drop, List.length_take]; rfl)) ?_
                                          with_reducible refine (sets_Same.calls ((rd_T32 t170 x13_4).f0) ((rd_T32 t170 x13_4).f1) ((rd_T32 t170 x13_4).f2) ((rd_T32 t170 x13_4).f3) _ _ ((rd_T32 t170 x13_4).f4) ((rd_T32 t173 x15_5).f0) ((rd_T32 t173 x15_5).f1) ((rd_T32 t173 x15_5).f2) ((rd_T32 t173 x15_5).f3) _ _ ((rd_T32 t173 x15_5).f4) false _ ?side1 ?side2 ?side3 ?side4 A57.out).mono ?_
                                          (case side1 => repeat (first | exact (by repeat (first | (with_reducible exact HR178_4.out) | (with_reducible refine Kd.C_alloc ?_ _) | (with_reducible refine Kd.C_drewN ?_ _) | (with_reducible refine Kd.C_drew ?_) | exact HR178_4.out)) | (with_reducible refine Kd.C_alloc ?_ _) | (with_reducible refine Kd.C_drewN ?_ _) | (with_reducible refine Kd.C_drew ?_)))
                                          (case side2 => exact HC178_4.out)
                                          (case side3 => repeat (first | exact (by repeat (first | (with_reducible exact HR179_4.out) | (with_reducible refine Kd.C_alloc ?_ _) | (with_reducible refine Kd.C_drewN ?_ _) | (with_reducible refine Kd.C_drew ?_) | exact HR179_4.out)) | (with_reducible refine Kd.C_alloc ?_ _) | (with_reducible refine Kd.C_drewN ?_ _) | (with_reducible refine Kd.C_drew ?_)))
                                          (case side4 => exact HC179_4.out)
                                          rintro e w65 ⟨rfl, hb⟩
                                          have HS0_ := (hb.cell (World.block_lt_of_cell? _ _ (hHeld.1))).trans (hHeld.1)
                                          have HS1_ := (hb.cell (World.block_lt_of_cell? _ _ (hHeld.2.1))).trans (hHeld.2.1)
                                          have HS2_ := (hb.cell (World.block_lt_of_cell? _ _ (hHeld.2.2.1))).trans (hHeld.2.2.1)
                                          have HS3_ := (hb.cell (World.block_lt_of_cell? _ _ (hHeld.2.2.2.1))).trans (hHeld.2.2.2.1)
                                          have HS4_ := (hb.cell (World.block_lt_of_cell? _ _ (hHeld.2.2.2.2.1))).trans (hHeld.2.2.2.2.1)
                                          have HS5_ := (hb.cell (World.block_lt_of_cell? _ _ (hHeld.2.2.2.2.2.1))).trans (hHeld.2.2.2.2.2.1)
                                          have HS6_ := (hb.cell (World.block_lt_of_cell? _ _ (hHeld.2.2.2.2.2.2.1))).trans (hHeld.2.2.2.2.2.2.1)
                                          have HS7_ := (hb.cell (World.block_lt_of_cell? _ _ (hHeld.2.2.2.2.2.2.2.1))).trans (hHeld.2.2.2.2.2.2.2.1)
                                          have HS8_ := (hb.cell (World.block_lt_of_cell? _ _ (hHeld.2.2.2.2.2.2.2.2.1))).trans (hHeld.2.2.2.2.2.2.2.2.1)
                                          have HS9_ := (hb.cell (World.block_lt_of_cell? _ _ (hHeld.2.2.2.2.2.2.2.2.2))).trans (hHeld.2.2.2.2.2.2.2.2.2)
                                          refine ⟨_, rfl, ?_⟩
                                          have n0_ := Aside0.mk (Kd.S_below (by (with_reducible repeat (first | apply Kd.S_alloc | apply Kd.S_drewN | apply Kd.S_drew)); exact HO_11.out) hb)
                                          have n1_ := Aside0.mk (Kd.S_below (by (with_reducible repeat (first | apply Kd.S_alloc | apply Kd.S_drewN | apply Kd.S_drew)); exact HO_12.out) hb)
                                          have n2_ := Aside0.mk (Kd.R_below (by (with_reducible repeat (first | apply Kd.R_alloc | apply Kd.R_drewN | apply Kd.R_drew)); exact HL178_4.out) hb)
                                          have n3_ := Aside0.mk (Kd.R_below (by (with_reducible repeat (first | apply Kd.R_alloc | apply Kd.R_drewN | apply Kd.R_drew)); exact HL179_4.out) hb)
                                          have n4_ := Aside0.mk (Kd.C_below (by repeat (first | (with_reducible exact HR178_4.out) | (with_reducible refine Kd.C_alloc ?_ _) | (with_reducible refine Kd.C_drewN ?_ _) | (with_reducible refine Kd.C_drew ?_) | exact HR178_4.out)) hb)
                                          have n5_ := Aside0.mk (Kd.C_below (by repeat (first | (with_reducible exact HR179_4.out) | (with_reducible refine Kd.C_alloc ?_ _) | (with_reducible refine Kd.C_drewN ?_ _) | (with_reducible refine Kd.C_drew ?_) | exact HR179_4.out)) hb)
                                          have n6_ := Aside0.mk (below_step (by repeat (first | (with_reducible first | exact HB.out | apply below_alloc | apply pw_below_drewN | apply below_drew1) | exact HB.out)) hb)
                                          clear HO_11
                                          clear HO_12
                                          clear HL178_4
                                          clear HL179_4
                                          clear HR178_4
                                          clear HR179_4
                                          clear HB
                                          have HO_11 := n0_
                                          have HO_12 := n1_
                                          have HL178_4 := n2_
                                          have HL179_4 := n3_
                                          have HR178_4 := n4_
                                          have HR179_4 := n5_
                                          have HB := n6_
                                          clear n0_ n1_ n2_ n3_ n4_ n5_ n6_
                                          (try clear hb)
                                          (try clear hb2)
                                          (try clear hk)
                                          (try clear hi)
                                          refine hK.out _ _ ⟨HS0_, HS1_, HS2_, HS3_, HS4_, HS5_, HS6_, HS7_, HS8_, HS9_⟩ (fun hHeld => ?_)
                                          clear hK K
                                          refine norm_ (a' := ?_) ?_ ?_
                                          rotate_left
                                          · show Act.put _ (some 109) _ = _
                                            simp only [Act.put, List.setIfInBounds_toArray, List.set_cons_zero, List.set_cons_succ, i64_w, i32_w]
                                            rfl
                                          refine pure_ (i := 9) (N := some 110) (v := ?_) (a' := ?_) #[true, true, true, true, true, true, true, true, true, true, false, false, false, false, false, false, false, false, false, false, false, false] rfl rfl (any_of HT_.out (by kernel_rfl)) (fun _ _ _ h => h) (Or.inl ⟨by rfl, ?_⟩) ?_ ?_
                                          rotate_left
                                          · intro w'
                                            go_simp
                                            with_reducible rfl
                                          rotate_left
                                          · simp only [Act.put, List.setIfInBounds_toArray, List.set_cons_zero, List.set_cons_succ, i64_w, i32_w]
                                            rfl
                                          refine pure_ (i := 10) (N := some 111) (v := undef) (a' := ?_) #[true, true, true, true, true, true, true, true, true, true, true, false, false, false, false, false, false, false, false, false, false, false] rfl rfl (any_of HT_.out (by kernel_rfl)) (fun _ _ _ h => h) (Or.inr ⟨by rfl, rfl⟩) ?_ ?_
                                          rotate_left
                                          · simp only [Act.put, List.setIfInBounds_toArray, List.set_cons_zero, List.set_cons_succ, i64_w, i32_w]
                                            rfl
                                          refine pure_ (i := 11) (N := some 112) (v := undef) (a' := ?_) #[true, true, true, true, true, true, true, true, true, true, true, true, false, false, false, false, false, false, false, false, false, false] rfl rfl (any_of HT_.out (by kernel_rfl)) (fun _ _ _ h => h) (Or.inr ⟨by rfl, rfl⟩) ?_ ?_
                                          rotate_left
                                          · simp only [Act.put, List.setIfInBounds_toArray, List.set_cons_zero, List.set_cons_succ, i64_w, i32_w]
                                            rfl
                                          refine pure_ (i := 12) (N := some 113) (v := undef) (a' := ?_) #[true, true, true, true, true, true, true, true, true, true, true, true, true, false, false, false, false, false, false, false, false, false] rfl rfl (any_of HT_.out (by kernel_rfl)) (fun _ _ _ h => h) (Or.inr ⟨by rfl, rfl⟩) ?_ ?_
                                          rotate_left
                                          · simp only [Act.put, List.setIfInBounds_toArray, List.set_cons_zero, List.set_cons_succ, i64_w, i32_w]
                                            rfl
                                          refine pure_ (i := 13) (N := some 114) (v := undef) (a' := ?_) #[true, true, true, true, true, true, true, true, true, true, true, true, true, true, false, false, false, false, false, false, false, false] rfl rfl (any_of HT_.out (by kernel_rfl)) (fun _ _ _ h => h) (Or.inr ⟨by rfl, rfl⟩) ?_ ?_
                                          rotate_left
                                          · simp only [Act.put, List.setIfInBounds_toArray, List.set_cons_zero, List.set_cons_succ, i64_w, i32_w]
                                            rfl
                                          refine pure_ (i := 14) (N := some 115) (v := undef) (a' := ?_) #[true, true, true, true, true, true, true, true, true, true, true, true, true, true, true, false, false, false, false, false, false, false] rfl rfl (any_of HT_.out (by kernel_rfl)) (fun _ _ _ h => h) (Or.inr ⟨by rfl, rfl⟩) ?_ ?_
                                          rotate_left
                                          · simp only [Act.put, List.setIfInBounds_toArray, List.set_cons_zero, List.set_cons_succ, i64_w, i32_w]
                                            rfl
                                          refine pure_ (i := 15) (N := some 116) (v := undef) (a' := ?_) #[true, true, true, true, true, true, true, true, true, true, true, true, true, true, true, true, false, false, false, false, false, false] rfl rfl (any_of HT_.out (by kernel_rfl)) (fun _ _ _ h => h) (Or.inr ⟨by rfl, rfl⟩) ?_ ?_
                                          rotate_left
                                          · simp only [Act.put, List.setIfInBounds_toArray, List.set_cons_zero, List.set_cons_succ, i64_w, i32_w]
                                            rfl
                                          refine pure_ (i := 16) (N := some 117) (v := undef) (a' := ?_) #[true, true, true, true, true, true, true, true, true, true, true, true, true, true, true, true, true, false, false, false, false, false] rfl rfl (any_of HT_.out (by kernel_rfl)) (fun _ _ _ h => h) (Or.inr ⟨by rfl, rfl⟩) ?_ ?_
                                          rotate_left
                                          · simp only [Act.put, List.setIfInBounds_toArray, List.set_cons_zero, List.set_cons_succ, i64_w, i32_w]
                                            rfl
                                          refine pure_ (i := 17) (N := some 118) (v := undef) (a' := ?_) #[true, true, true, true, true, true, true, true, true, true, true, true, true, true, true, true, true, true, false, false, false, false] rfl rfl (any_of HT_.out (by kernel_rfl)) (fun _ _ _ h => h) (Or.inr ⟨by rfl, rfl⟩) ?_ ?_
                                          rotate_left
                                          · simp only [Act.put, List.setIfInBounds_toArray, List.set_cons_zero, List.set_cons_succ, i64_w, i32_w]
                                            rfl
                                          refine pure_ (i := 18) (N := some 119) (v := undef) (a' := ?_) #[true, true, true, true, true, true, true, true, true, true, true, true, true, true, true, true, true, true, true, false, false, false] rfl rfl (any_of HT_.out (by kernel_rfl)) (fun _ _ _ h => h) (Or.inr ⟨by rfl, rfl⟩) ?_ ?_
                                          rotate_left
                                          · simp only [Act.put, List.setIfInBounds_toArray, List.set_cons_zero, List.set_cons_succ, i64_w, i32_w]
                                            rfl
                                          refine pure_ (i := 19) (N := some 120) (v := undef) (a' := ?_) #[true, true, true, true, true, true, true, true, true, true, true, true, true, true, true, true, true, true, true, true, false, false] rfl rfl (any_of HT_.out (by kernel_rfl)) (fun _ _ _ h => h) (Or.inr ⟨by rfl, rfl⟩) ?_ ?_
                                          rotate_left
                                          · simp only [Act.put, List.setIfInBounds_toArray, List.set_cons_zero, List.set_cons_succ, i64_w, i32_w]
                                            rfl
                                          refine pure_ (i := 20) (N := some 121) (v := undef) (a' := ?_) #[true, true, true, true, true, true, true, true, true, true, true, true, true, true, true, true, true, true, true, true, true, false] rfl rfl (any_of HT_.out (by kernel_rfl)) (fun _ _ _ h => h) (Or.inr ⟨by rfl, rfl⟩) ?_ ?_
                                          rotate_left
                                          · simp only [Act.put, List.setIfInBounds_toArray, List.set_cons_zero, List.set_cons_succ, i64_w, i32_w]
                                            rfl
                                          refine pure_ (i := 21) (N := some 122) (v := ?_) (a' := ?_) #[true, true, true, true, true, true, true, true, true, true, true, true, true, true, true, true, true, true, true, true, true, true] rfl rfl (any_of HT_.out (by kernel_rfl)) (fun _ _ _ h => h) (Or.inl ⟨by rfl, ?_⟩) ?_ ?_
                                          rotate_left
                                          · intro w'
                                            go_simp
                                            with_reducible rfl
                                          rotate_left
                                          · simp only [Act.put, List.setIfInBounds_toArray, List.set_cons_zero, List.set_cons_succ, i64_w, i32_w]
                                            rfl
                                          refine done_ (done_of HT_.out (by kernel_rfl)) ?_
                                          try go_wp2
                                          go_roundg k5
                                          case measure => have := HJ3.out; have := HK2.out; have := HJ21.out; have := HK4.out; have := HK5.out; omega
                                          case rel => exact ⟨(x14_5), (wrap64 (x15_5 + 1)), (by first | rfl | (simp; done) | (simp [*]; done)), (by first | rfl | (simp; done) | (simp [*]; done)), H', ⟨by have := HJ3.out; have := HK2.out; have := HJ21.out; have := HK4.out; have := HK5.out; omega⟩, ⟨by (with_reducible repeat (first | apply Kd.S_alloc | apply Kd.S_drewN | apply Kd.S_drew)); exact HO_11.out⟩, ⟨by (with_reducible repeat (first | apply Kd.S_alloc | apply Kd.S_drewN | apply Kd.S_drew)); exact HO_12.out⟩, ⟨by repeat (first | (with_reducible first | exact HB.out | apply below_alloc | apply pw_below_drewN | apply below_drew1) | exact HB.out)⟩⟩
                                      · rw [if_neg c56] at H
                                        exact absurd H (by simp)
                                    · rw [if_neg c55] at H
                                      exact absurd H (by simp)
                                  · rw [if_neg c54] at H
                                    exact absurd H (by simp)
                                · rw [if_neg c53] at H
                                  have c53b0 : decide (x15_5 < (t173.length : Int)) = false := decide_eq_false c53
                                  clear c53
                                  by_cases c66 : x14_5 < 1
                                  · rw [if_pos c66] at H
                                    have c66b0 : decide (x14_5 < 1) = true := decide_eq_true c66
                                    clear c66
                                    obtain rfl := Option.some.inj H
                                    go_wp2
                                    go_ret
                                    exact ⟨by first | rfl | (simp [errW_none, errW_some] <;> rfl) | (simp [*, errW_none, errW_some] <;> rfl), by repeat (first | (with_reducible first | exact HB.out | apply below_alloc | apply pw_below_drewN | apply below_drew1) | exact HB.out)⟩
                                  · rw [if_neg c66] at H
                                    have c66b0 : decide (x14_5 < 1) = false := decide_eq_false c66
                                    clear c66
                                    have H' := Aside0.mk H
                                    clear H
                                    go_wp2
                                    go_roundg k5
                                    case measure => have := HJ3.out; have := HK2.out; have := HJ21.out; have := HK4.out; have := HK5.out; omega
                                    case rel => exact ⟨(wrap64 (x13_4 + 1)), (by first | rfl | (simp; done) | (simp [*]; done)), H', ⟨by have := HJ3.out; have := HK2.out; have := HJ21.out; have := HK4.out; have := HK5.out; omega⟩, ⟨by (with_reducible repeat (first | apply Kd.S_alloc | apply Kd.S_drewN | apply Kd.S_drew)); exact HO_11.out⟩, ⟨by (with_reducible repeat (first | apply Kd.S_alloc | apply Kd.S_drewN | apply Kd.S_drew)); exact HO_12.out⟩, ⟨by repeat (first | (with_reducible first | exact HB.out | apply below_alloc | apply pw_below_drewN | apply below_drew1) | exact HB.out)⟩⟩
                          · rw [if_neg c52] at H
                            have c52b0 : decide (x13_4 < (t170.length : Int)) = false := decide_eq_false c52
                            clear c52
                            by_cases c67 : t151 = true
                            · subst c67
                              have H1 : ((sets_Least.f k4 t170).bind fun t176 => ((sets_Least.f k4 t173).bind fun t177 => (some (t176 == t177)))) = some r := by rw [if_pos rfl] at H; exact H
                              clear H
                              have H := H1
                              clear H1
                              replace H := Option.bind_eq_some_iff.mp H
                              obtain ⟨t176, A680, H⟩ := H
                              replace H : ((sets_Least.f k4 t173).bind fun t177 => (some (t176 == t177))) = some r := H
                              have A68 := Aside0.mk A680
                              clear A680
                              replace H := Option.bind_eq_some_iff.mp H
                              obtain ⟨t177, A690, H⟩ := H
                              replace H : (some (t176 == t177)) = some r := H
                              have A69 := Aside0.mk A690
                              clear A690
                              obtain rfl := Option.some.inj H
                              go_wp2_with (first | (go_at_call 21; (with_reducible refine (sets_Least.calls k4 _ _ t170 t176 _ ?side1 ?side2 A68.out).mono ?_); (case side1 => repeat (first | exact (Kd.S_reads' HO_11.out).2.2 | (with_reducible refine Kd.C_alloc ?_ _) | (with_reducible refine Kd.C_drewN ?_ _) | (with_reducible refine Kd.C_drew ?_))); (case side2 => exact (Kd.S_reads' HO_11.out).2.1); rintro e w70 ⟨rfl, hb⟩; have n0_ := Aside0.mk (Kd.S_below (by (with_reducible repeat (first | apply Kd.S_alloc | apply Kd.S_drewN | apply Kd.S_drew)); exact HO_11.out) hb); have n1_ := Aside0.mk (Kd.S_below (by (with_reducible repeat (first | apply Kd.S_alloc | apply Kd.S_drewN | apply Kd.S_drew)); exact HO_12.out) hb); have n2_ := Aside0.mk (below_step (by repeat (first | (with_reducible first | exact HB.out | apply below_alloc | apply pw_below_drewN | apply below_drew1) | exact HB.out)) hb); clear HO_11; clear HO_12; clear HB; have HO_11 := n0_; have HO_12 := n1_; have HB := n2_; clear n0_ n1_ n2_; (try clear hb); (try clear hb2); (try clear hk); (try clear hi)) | (go_at_call 21; (with_reducible refine (sets_Least.calls k4 _ _ t173 t177 _ ?side1 ?side2 A69.out).mono ?_); (case side1 => repeat (first | exact (Kd.S_reads' HO_12.out).2.2 | (with_reducible refine Kd.C_alloc ?_ _) | (with_reducible refine Kd.C_drewN ?_ _) | (with_reducible refine Kd.C_drew ?_))); (case side2 => exact (Kd.S_reads' HO_12.out).2.1); rintro e w71 ⟨rfl, hb⟩; have n0_ := Aside0.mk (Kd.S_below (by (with_reducible repeat (first | apply Kd.S_alloc | apply Kd.S_drewN | apply Kd.S_drew)); exact HO_11.out) hb); have n1_ := Aside0.mk (Kd.S_below (by (with_reducible repeat (first | apply Kd.S_alloc | apply Kd.S_drewN | apply Kd.S_drew)); exact HO_12.out) hb); have n2_ := Aside0.mk (below_step (by repeat (first | (with_reducible first | exact HB.out | apply below_alloc | apply pw_below_drewN | apply below_drew1) | exact HB.out)) hb); clear HO_11; clear HO_12; clear HB; have HO_11 := n0_; have HO_12 := n1_; have HB := n2_; clear n0_ n1_ n2_; (try clear hb); (try clear hb2); (try clear hk); (try clear hi)))
                              go_ret
                              exact ⟨by first | rfl | (simp [errW_none, errW_some] <;> rfl) | (simp [*, errW_none, errW_some] <;> rfl), by repeat (first | (with_reducible first | exact HB.out | apply below_alloc | apply pw_below_drewN | apply below_drew1) | exact HB.out)⟩
                            · replace c67 := Bool.eq_false_iff.mpr c67
                              subst c67
                              have H1 : (some false) = some r := by rw [if_neg (show ¬ (false = true) by decide)] at H; exact H
                              clear H
                              have H := H1
                              clear H1
                              obtain rfl := Option.some.inj H
                              go_wp2
                              go_ret
                              exact ⟨by first | rfl | (simp [errW_none, errW_some] <;> rfl) | (simp [*, errW_none, errW_some] <;> rfl), by repeat (first | (with_reducible first | exact HB.out | apply below_alloc | apply pw_below_drewN | apply below_drew1) | exact HB.out)⟩
                    · rw [if_neg c46] at H
                      have c46b0 : ((t170.length : Int) == (t173.length : Int)) = false := beq_eq_false_iff_ne.mpr c46
                      have c46b1 : ((t170.length : Int) != (t173.length : Int)) = true := bne_iff_ne.mpr c46
                      have c46b2 : (t170.length == t173.length) = false := by first | simpa using c46 | (simp at c46 ⊢; omega)
                      obtain rfl := Option.some.inj H
                      go_wp2_with (first | ((with_reducible refine gate_callee (f := 17) rfl ?_); refine goesL_ (some 81) rfl rfl Try.func17 (by kernel_rfl) rfl #[.slice A0 l0.length c0] rfl (by (try simp only [List.map_toArray, List.map_cons, List.map_nil]); first | done | rfl | (simp only [List.length_drop, List.length_take]; rfl)) ?_; (with_reducible refine (sets_Group.calls _ _ l0 t170 _ ?side1 ?side2 A44.out).mono ?_); (case side1 => repeat (first | exact (Kd.C_below HR0.out HB.out) | (with_reducible refine Kd.C_alloc ?_ _) | (with_reducible refine Kd.C_drewN ?_ _) | (with_reducible refine Kd.C_drew ?_))); (case side2 => exact HC0.out); rintro e w72 ⟨v171, rfl, ho0, hb⟩; refine ⟨_, rfl, ?_⟩; have n0_ := Aside0.mk (Kd.R_below (by (with_reducible repeat (first | apply Kd.R_alloc | apply Kd.R_drewN | apply Kd.R_drew)); exact HO_7.out) hb); have n1_ := Aside0.mk (Kd.S_lower ho0 (below_size (by repeat (first | (with_reducible first | exact HB.out | apply below_alloc | apply pw_below_drewN | apply below_drew1) | exact HB.out)))); have n2_ := Aside0.mk (below_step (by repeat (first | (with_reducible first | exact HB.out | apply below_alloc | apply pw_below_drewN | apply below_drew1) | exact HB.out)) hb); clear HO_7; clear HB; have HO_7 := n0_; have HO172 := n1_; have HB := n2_; clear n0_ n1_ n2_; (try clear hb); (try clear hb2); (try clear hk); (try clear hi); (try clear ho0); obtain ⟨Ao73, co73, eo73⟩ := Kd.R_slice HO_7.out; subst eo73) | ((with_reducible refine gate_callee (f := 17) rfl ?_); refine goesL_ (some 83) rfl rfl Try.func17 (by kernel_rfl) rfl #[.slice Ao73 x7_21.length co73] rfl (by (try simp only [List.map_toArray, List.map_cons, List.map_nil]); first | done | rfl | (simp only [List.length_drop, List.length_take]; rfl)) ?_; (with_reducible refine (sets_Group.calls _ _ x7_21 t173 _ ?side1 ?side2 A45.out).mono ?_); (case side1 => repeat (first | exact (Kd.R_reads' HO_7.out).2.2 | (with_reducible refine Kd.C_alloc ?_ _) | (with_reducible refine Kd.C_drewN ?_ _) | (with_reducible refine Kd.C_drew ?_))); (case side2 => exact (Kd.R_reads' HO_7.out).2.1); rintro e w74 ⟨v174, rfl, ho0, hb⟩; refine ⟨_, rfl, ?_⟩; have n0_ := Aside0.mk (Kd.R_below (by (with_reducible repeat (first | apply Kd.R_alloc | apply Kd.R_drewN | apply Kd.R_drew)); exact HO_7.out) hb); have n1_ := Aside0.mk (Kd.S_elder' (by (with_reducible repeat (first | apply Kd.S_alloc | apply Kd.S_drewN | apply Kd.S_drew)); exact HO172.out) (Kd.S_base ho0) hb); have n2_ := Aside0.mk (Kd.S_lower (Kd.S_new' ho0 (Kd.S_lt (by (with_reducible repeat (first | apply Kd.S_alloc | apply Kd.S_drewN | apply Kd.S_drew)); exact HO172.out))) (below_size (by repeat (first | (with_reducible first | exact HB.out | apply below_alloc | apply pw_below_drewN | apply below_drew1) | exact HB.out)))); have n3_ := Aside0.mk (below_step (by repeat (first | (with_reducible first | exact HB.out | apply below_alloc | apply pw_below_drewN | apply below_drew1) | exact HB.out)) hb); clear HO_7; clear HO172; clear HB; have HO_7 := n0_; have HO172 := n1_; have HO175 := n2_; have HB := n3_; clear n0_ n1_ n2_ n3_; (try clear hb); (try clear hb2); (try clear hk); (try clear hi); (try clear ho0); obtain ⟨Ao75, co75, eo75⟩ := Kd.S_slice HO172.out; subst eo75; obtain ⟨Ao76, co76, eo76⟩ := Kd.S_slice HO175.out; subst eo76))
                      go_ret
                      exact ⟨by first | rfl | (simp [errW_none, errW_some] <;> rfl) | (simp [*, errW_none, errW_some] <;> rfl), by repeat (first | (with_reducible first | exact HB.out | apply below_alloc | apply pw_below_drewN | apply below_drew1) | exact HB.out)⟩
              · rw [if_neg c21] at H
                exact absurd H (by simp)

end Go.Proofs.Ytdkecfjeiookdaa.PA
