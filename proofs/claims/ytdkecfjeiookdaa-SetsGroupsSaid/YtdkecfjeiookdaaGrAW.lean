/- Contracts by hand: the chapter's example. -/
import Derived.Outline
import Derived.Lib.Hide
import Derived.Deep.RegionHeld3
import Derived.Test.YtdkecfjeiookdaaGrGR
import Derived.Test.YtdkecfjeiookdaaGrPAx10
import Derived.Test.YtdkecfjeiookdaaGrPAx5
import Derived.Test.YtdkecfjeiookdaaGrPAx4
namespace Go.Proofs.Ytdkecfjeiookdaa.PA
open Go.RowKit Go.Maps Go.Proofs.YtdkecfjeiookdaaW.PrintWords Go.Proofs.YtdkecfjeiookdaaW.PrintLast Go.Proofs.YtdkecfjeiookdaaW.PrintMore Go.Proofs.Ytdkecfjeiookdaa.Mp
set_option linter.unusedVariables false
set_option linter.unusedSimpArgs false

def awA : ByteArray := ⟨#[1, 97, 0]⟩
def awB : ByteArray := ⟨#[1, 98, 0]⟩
def awBig : ByteArray := ⟨#[1, 65, 0]⟩
def awIn : List S39 := [⟨awA, 1, 1, 5, ⟨#[120]⟩⟩, ⟨awB, 1, 1, 7, ⟨#[121]⟩⟩, ⟨awBig, 1, 1, 3, ⟨#[122]⟩⟩, ⟨awA, 1, 1, 9, ⟨#[120]⟩⟩]
def awOut : List S32 := [⟨awA, 1, 1, 3, [⟨#[120]⟩, ⟨#[122]⟩]⟩, ⟨awB, 1, 1, 7, [⟨#[121]⟩]⟩]
theorem awGroup : sets_Group.f awIn = some awOut := by kernel_rfl
theorem awTexts : ostiarykit_SameTexts.f 5 [⟨#[120]⟩, ⟨#[122]⟩] [⟨#[120]⟩, ⟨#[122]⟩] = some true := by kernel_rfl
theorem awLeast : sets_Least.f 5 awOut = some 3 := by kernel_rfl
def ostiarylaw22_awake.f : Option Bool := some true

set_option maxHeartbeats 4000000 in
set_option maxRecDepth 100000 in
theorem awb_calls (w : World) : Calls Try.prog 61 #[] w fun e w' => e = .returned (.string awB) ∧ Drawn0 w w' := by
  go_enter Try.func61, Try.ntmps61
  go_wp2
  go_ret
  exact ⟨rfl, by repeat (first | exact Drawn0.refl _ | apply Drawn0.step)⟩
theorem awTwo_C (W : World) (x y : ByteArray) : Kd.C Kd.string (W.alloc (.cells #[.string x, .string y] 9)) (some ⟨W.heap.size, 0, none⟩) 2 [x, y] := by
  have h : Kd.R Kd.string 9 (W.alloc (.cells #[.string x, .string y] 9)) 0 (fun k => k = W.heap.size) (.slice (some ⟨W.heap.size, 0, none⟩) 2 2) [x, y] :=
    ⟨fun k hk => by simpa [Value.ownBlock] using hk.symm, _, by have := World.ownsRow_lit (base := 0) (e := 9) (size := 1) W #[.string x, .string y] 2 (Nat.zero_le _) (by simp [maxLen]) rfl; exact this, Kd.reps_scalar [x, y]⟩
  exact (Kd.R_reads' h).2.2
set_option maxHeartbeats 4000000 in
set_option maxRecDepth 100000 in
theorem ostiarylaw22_awake.calls (r : Bool) (w : World) (h : ostiarylaw22_awake.f = some r) :
    Calls Try.prog 16 #[] w fun e w' => e = .returned (.bool r) ∧ Below w.heap.size w w' := by
  obtain rfl := Option.some.inj h
  clear h
  have HB := Aside0.mk (Below.refl w.heap.size w)
  go_enter Try.func16, Try.ntmps16
  go_wp2_with (first | (go_at_call 28; refine (ostiarylaw22_a.calls awA _ rfl).mono ?_; rintro e w' ⟨rfl, ⟨nd, rfl⟩⟩) | (go_at_call 61; refine (awb_calls _).mono ?_; rintro e w' ⟨rfl, ⟨nd, rfl⟩⟩) | (go_at_call 29; refine (ostiarylaw22_big.calls awBig _ rfl).mono ?_; rintro e w' ⟨rfl, ⟨nd, rfl⟩⟩) | (go_at_call 31; refine (ostiarylaw22_rec.calls _ _ _ _ _ _ _ _ _ _ rfl).mono ?_; rintro e w' ⟨rfl, hb⟩; have n0_ := Aside0.mk (below_step (by repeat (first | (with_reducible first | exact HB.out | apply below_alloc | apply pw_below_drewN | apply below_drew1) | exact HB.out)) hb); clear HB; have HB := n0_; clear n0_) | ((with_reducible refine gate_dst (N := 10) rfl ?_); refine Kd.R_lit k39 (w0 := w) w.heap.size 39 rfl (N := 10) rfl (xs := awIn) (inner := [.string awA, .int .i64 1, .int .i64 1, .int .i64 5, .string ⟨#[120]⟩, .string awB, .int .i64 1, .int .i64 1, .int .i64 7, .string ⟨#[121]⟩, .string awBig, .int .i64 1, .int .i64 1, .int .i64 3, .string ⟨#[122]⟩, .string awA, .int .i64 1, .int .i64 1, .int .i64 9, .string ⟨#[120]⟩]) (ok := fun _ => True) (okp := fun _ => True) ?hr ?hp (fun _ hk => hk) trivial HB.out HB.out.size (by simp [awIn]) ?_; (case hr => first | (go_simp; done) | (go_simp; rfl)); (case hp => exact (Reps.c5 (k39_mkM _ _ _ ⟨awA, 1, 1, 5, ⟨#[120]⟩⟩) (Reps.c5 (k39_mkM _ _ _ ⟨awB, 1, 1, 7, ⟨#[121]⟩⟩) (Reps.c5 (k39_mkM _ _ _ ⟨awBig, 1, 1, 3, ⟨#[122]⟩⟩) (Reps.c5 (k39_mkM _ _ _ ⟨awA, 1, 1, 9, ⟨#[120]⟩⟩) (Reps.none _ _)))))); intro v1 w1 hR1 hB1 hg1 hat1; obtain ⟨A1, c1, rfl⟩ := Kd.R_slice hR1; have HR1 := Aside0.mk hR1; have HB1 := Aside0.mk hB1; clear hR1 hB1 hg1 hat1) | (go_at_call 17; refine (sets_Group.calls _ _ awIn awOut _ ?side1 ?side2 awGroup).mono ?_; (case side1 => exact (Kd.R_reads' HR1.out).2.2); (case side2 => exact (Kd.R_reads' HR1.out).2.1); rintro e w2 ⟨v2, rfl, hS2, hB2⟩; obtain ⟨g, cap, rfl, hgb, hgl, cells, hgc⟩ := Kd.S_form hS2 (by decide); have HS2 := Aside0.mk hS2; have HB2 := Aside0.mk (below_step HB1.out hB2); clear hS2 hB2; rw [show awOut.length = 2 from rfl]))
  have hC := (Kd.S_reads' HS2.out).2.2
  have hcc := (Kd.S_reads' HS2.out).2.1
  obtain ⟨ad, A4, c4, ea, x0, x1, x2, x3, x4, h4, i4⟩ := at_T32 hC 0 (by decide) (by decide)
  obtain ⟨ad', A4', c4', ea', y0, y1, y2, y3, y4, h4', i4'⟩ := at_T32 hC 1 (by decide) (by decide)
  cases ea
  cases ea'
  have n0 : w2.cell? ⟨g, 0, none⟩ = some (.string awA) := x0
  have n3 : w2.cell? ⟨g, 3, none⟩ = some (.int .i64 3) := x3
  have n4 : w2.cell? ⟨g, 4, none⟩ = some (.slice A4 2 c4) := x4
  have n8 : w2.cell? ⟨g, 8, none⟩ = some (.int .i64 7) := y3
  have HC4 : Aside0 (Kd.C Kd.string w2 A4 2 [⟨#[120]⟩, ⟨#[122]⟩]) := ⟨i4⟩
  have hc4 : 2 ≤ c4 := h4
  have HC := Aside0.mk hC
  clear x0 x1 x2 x3 x4 y0 y1 y2 y3 y4 h4 i4 h4' i4' hC HS2 hgc
  have of_below : ∀ W : World, Below w2.heap.size w2 W → Below w2.heap.size w2 W ∧ W.cell? ⟨g, 0, none⟩ = some (.string awA) ∧ W.cell? ⟨g, 3, none⟩ = some (.int .i64 3) ∧ W.cell? ⟨g, 4, none⟩ = some (.slice A4 2 c4) ∧ W.cell? ⟨g, 8, none⟩ = some (.int .i64 7) := fun W hb => ⟨hb, pw_cell_below hb n0, pw_cell_below hb n3, pw_cell_below hb n4, pw_cell_below hb n8⟩
  have Z := Below.refl w2.heap.size w2
  go_region_held3 (fun W => Below w2.heap.size w2 W ∧ W.cell? ⟨g, 0, none⟩ = some (.string awA) ∧ W.cell? ⟨g, 3, none⟩ = some (.int .i64 3) ∧ W.cell? ⟨g, 4, none⟩ = some (.slice A4 2 c4) ∧ W.cell? ⟨g, 8, none⟩ = some (.int .i64 7))
    ((refine of_below _ ?_; repeat (first | assumption | (with_reducible first | apply below_alloc | apply pw_below_drewN | apply below_drew1)))) (first | (go_at_call 28; refine (ostiarylaw22_a.calls awA _ rfl).mono ?_; rintro e w' ⟨rfl, ⟨nd, rfl⟩⟩) | (go_at_call 62; refine (ostiarykit_SameTexts.calls 5 A4 c4 [⟨#[120]⟩, ⟨#[122]⟩] _ 2 [⟨#[120]⟩, ⟨#[122]⟩] true _ ?side1 hc4 ?side2 (by decide) awTexts).mono ?_; (case side1 => exact Kd.C_below HC4.out (by repeat (first | assumption | (with_reducible first | apply below_alloc | apply pw_below_drewN | apply below_drew1)))); (case side2 => repeat (first | exact awTwo_C _ _ _ | refine Kd.C_drewN ?_ _ | refine Kd.C_drew ?_)); rintro e w' ⟨rfl, ⟨nd, rfl⟩⟩) | (go_at_call 21; refine (sets_Least.calls 5 _ cap awOut 3 _ ?side1 hcc awLeast).mono ?_; (case side1 => exact Kd.C_below HC.out (by repeat (first | assumption | (with_reducible first | apply below_alloc | apply pw_below_drewN | apply below_drew1)))); rintro e w' ⟨rfl, hb⟩; have Z2 := below_step (by repeat (first | assumption | (with_reducible first | apply below_alloc | apply pw_below_drewN | apply below_drew1))) hb))
  all_goals
    go_wp2
    go_ret
    exact ⟨rfl, below_step HB2.out (by repeat (first | assumption | (with_reducible first | apply below_alloc | apply pw_below_drewN | apply below_drew1)))⟩
end Go.Proofs.Ytdkecfjeiookdaa.PA
