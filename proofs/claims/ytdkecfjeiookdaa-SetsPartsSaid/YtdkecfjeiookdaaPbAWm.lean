/- Contracts by hand: the chapter's example. -/
import Derived.Outline
import Derived.Lib.Hide
import Derived.Deep.RegionHeld3
import Derived.Test.YtdkecfjeiookdaaPbGR
import Derived.Test.YtdkecfjeiookdaaPbPAx10m
import Derived.Test.YtdkecfjeiookdaaPbPAx5
import Derived.Test.YtdkecfjeiookdaaPbPAx4
import Derived.StringKeys
import Derived.Test.YtdkecfjeiookdaaPbPAx0m
import Derived.Test.YtdkecfjeiookdaaPbITm
import Derived.Shelf.Sort.Plain
import Derived.Shelf.Slices.Turned
import Derived.Shelf.Slices.Equal
import Derived.Ground.Names2Prog
import Derived.Shelf.Slices.Clone
import Derived.Shelf.Slices.In.SortNone
import Derived.Shelf.Slices.Empties2
import Derived.Test.YtdkecfjeiookdaaProg
import Derived.Sort.OwnSorted
namespace Go.Proofs.Ytdkecfjeiookdaa.PA
open Go.RowKit Go.Maps Go.Proofs.YtdkecfjeiookdaaW.PrintWords Go.Proofs.YtdkecfjeiookdaaW.PrintLast Go.Proofs.YtdkecfjeiookdaaW.PrintMore Go.Proofs.Ytdkecfjeiookdaa.Mp
set_option linter.unusedVariables false
set_option linter.unusedSimpArgs false

def awA : ByteArray := ⟨#[1, 97, 0]⟩
def awB : ByteArray := ⟨#[1, 98, 0]⟩
def awBig : ByteArray := ⟨#[1, 65, 0]⟩
def awIn : List S39 := [⟨awA, 1, 1, 5, ⟨#[120]⟩⟩, ⟨awB, 1, 1, 7, ⟨#[121]⟩⟩, ⟨awBig, 1, 1, 3, ⟨#[122]⟩⟩, ⟨awA, 1, 1, 9, ⟨#[120]⟩⟩]
def awOut : List S32 := [⟨awA, 1, 1, 3, [⟨#[120]⟩, ⟨#[122]⟩]⟩, ⟨awB, 1, 1, 7, [⟨#[121]⟩]⟩]
theorem awGroup : sets_Group.f awIn = some awOut := by kernel_rfl
theorem awTexts : ostiarykit_SameTexts.f 5 [⟨#[120]⟩, ⟨#[122]⟩] [⟨#[120]⟩, ⟨#[122]⟩] = some true := by kernel_rfl
theorem awLeast : sets_Least.f 5 awOut = some 3 := by kernel_rfl
def ostiarylaw22_awake.f : Option Bool := some true

set_option maxHeartbeats 4000000 in
set_option maxRecDepth 100000 in
theorem awb_calls (w : World) : Calls Try.prog 61 #[] w fun e w' => e = .returned (.string awB) ∧ Drawn0 w w' := by
  go_enter Try.func61, Try.ntmps61
  go_wp2
  go_ret
  exact ⟨rfl, by repeat (first | exact Drawn0.refl _ | apply Drawn0.step)⟩
theorem awTwo_C (W : World) (x y : ByteArray) : Kd.C Kd.string (W.alloc (.cells #[.string x, .string y] 9)) (some ⟨W.heap.size, 0, none⟩) 2 [x, y] := by
  have h : Kd.R Kd.string 9 (W.alloc (.cells #[.string x, .string y] 9)) 0 (fun k => k = W.heap.size) (.slice (some ⟨W.heap.size, 0, none⟩) 2 2) [x, y] :=
    ⟨fun k hk => by simpa [Value.ownBlock] using hk.symm, _, by have := World.ownsRow_lit (base := 0) (e := 9) (size := 1) W #[.string x, .string y] 2 (Nat.zero_le _) (by simp [maxLen]) rfl; exact this, Kd.reps_scalar [x, y]⟩
  exact (Kd.R_reads' h).2.2
set_option maxHeartbeats 4000000 in
set_option maxRecDepth 100000 in
theorem ostiarylaw22_awake.calls (r : Bool) (w : World) (h : ostiarylaw22_awake.f = some r) :
    Calls Try.prog 16 #[] w fun e w' => e = .returned (.bool r) ∧ Below w.heap.size w w' := by
  obtain rfl := Option.some.inj h
  clear h
  have HB := Aside0.mk (Below.refl w.heap.size w)
  go_enter Try.func16, Try.ntmps16
  go_wp2_with (first | (go_at_call 28; refine (ostiarylaw22_a.calls awA _ rfl).mono ?_; rintro e w' ⟨rfl, ⟨nd, rfl⟩⟩) | (go_at_call 61; refine (awb_calls _).mono ?_; rintro e w' ⟨rfl, ⟨nd, rfl⟩⟩) | (go_at_call 29; refine (ostiarylaw22_big.calls awBig _ rfl).mono ?_; rintro e w' ⟨rfl, ⟨nd, rfl⟩⟩) | (go_at_call 31; refine (ostiarylaw22_rec.calls _ _ _ _ _ _ _ _ _ _ rfl).mono ?_; rintro e w' ⟨rfl, hb⟩; have n0_ := Aside0.mk (below_step (by repeat (first | (with_reducible first | exact HB.out | apply below_alloc | apply pw_below_drewN | apply below_drew1) | exact HB.out)) hb); clear HB; have HB := n0_; clear n0_) | ((with_reducible refine gate_dst (N := 10) rfl ?_); refine Kd.R_lit k39 (w0 := w) w.heap.size 39 rfl (N := 10) rfl (xs := awIn) (inner := [.string awA, .int .i64 1, .int .i64 1, .int .i64 5, .string ⟨#[120]⟩, .string awB, .int .i64 1, .int .i64 1, .int .i64 7, .string ⟨#[121]⟩, .string awBig, .int .i64 1, .int .i64 1, .int .i64 3, .string ⟨#[122]⟩, .string awA, .int .i64 1, .int .i64 1, .int .i64 9, .string ⟨#[120]⟩]) (ok := fun _ => True) (okp := fun _ => True) ?hr ?hp (fun _ hk => hk) trivial HB.out HB.out.size (by simp [awIn]) ?_; (case hr => first | (go_simp; done) | (go_simp; rfl)); (case hp => exact (Reps.c5 (k39_mkM _ _ _ ⟨awA, 1, 1, 5, ⟨#[120]⟩⟩) (Reps.c5 (k39_mkM _ _ _ ⟨awB, 1, 1, 7, ⟨#[121]⟩⟩) (Reps.c5 (k39_mkM _ _ _ ⟨awBig, 1, 1, 3, ⟨#[122]⟩⟩) (Reps.c5 (k39_mkM _ _ _ ⟨awA, 1, 1, 9, ⟨#[120]⟩⟩) (Reps.none _ _)))))); intro v1 w1 hR1 hB1 hg1 hat1; obtain ⟨A1, c1, rfl⟩ := Kd.R_slice hR1; have HR1 := Aside0.mk hR1; have HB1 := Aside0.mk hB1; clear hR1 hB1 hg1 hat1) | (go_at_call 17; refine (sets_Group.calls _ _ awIn awOut _ ?side1 ?side2 awGroup).mono ?_; (case side1 => exact (Kd.R_reads' HR1.out).2.2); (case side2 => exact (Kd.R_reads' HR1.out).2.1); rintro e w2 ⟨v2, rfl, hS2, hB2⟩; obtain ⟨g, cap, rfl, hgb, hgl, cells, hgc⟩ := Kd.S_form hS2 (by decide); have HS2 := Aside0.mk hS2; have HB2 := Aside0.mk (below_step HB1.out hB2); clear hS2 hB2; rw [show awOut.length = 2 from rfl]))
  have hC := (Kd.S_reads' HS2.out).2.2
  have hcc := (Kd.S_reads' HS2.out).2.1
  obtain ⟨ad, A4, c4, ea, x0, x1, x2, x3, x4, h4, i4⟩ := at_T32 hC 0 (by decide) (by decide)
  obtain ⟨ad', A4', c4', ea', y0, y1, y2, y3, y4, h4', i4'⟩ := at_T32 hC 1 (by decide) (by decide)
  cases ea
  cases ea'
  have n0 : w2.cell? ⟨g, 0, none⟩ = some (.string awA) := x0
  have n3 : w2.cell? ⟨g, 3, none⟩ = some (.int .i64 3) := x3
  have n4 : w2.cell? ⟨g, 4, none⟩ = some (.slice A4 2 c4) := x4
  have n8 : w2.cell? ⟨g, 8, none⟩ = some (.int .i64 7) := y3
  have HC4 : Aside0 (Kd.C Kd.string w2 A4 2 [⟨#[120]⟩, ⟨#[122]⟩]) := ⟨i4⟩
  have hc4 : 2 ≤ c4 := h4
  have HC := Aside0.mk hC
  clear x0 x1 x2 x3 x4 y0 y1 y2 y3 y4 h4 i4 h4' i4' hC HS2 hgc
  have of_below : ∀ W : World, Below w2.heap.size w2 W → Below w2.heap.size w2 W ∧ W.cell? ⟨g, 0, none⟩ = some (.string awA) ∧ W.cell? ⟨g, 3, none⟩ = some (.int .i64 3) ∧ W.cell? ⟨g, 4, none⟩ = some (.slice A4 2 c4) ∧ W.cell? ⟨g, 8, none⟩ = some (.int .i64 7) := fun W hb => ⟨hb, pw_cell_below hb n0, pw_cell_below hb n3, pw_cell_below hb n4, pw_cell_below hb n8⟩
  have Z := Below.refl w2.heap.size w2
  go_region_held3 (fun W => Below w2.heap.size w2 W ∧ W.cell? ⟨g, 0, none⟩ = some (.string awA) ∧ W.cell? ⟨g, 3, none⟩ = some (.int .i64 3) ∧ W.cell? ⟨g, 4, none⟩ = some (.slice A4 2 c4) ∧ W.cell? ⟨g, 8, none⟩ = some (.int .i64 7))
    ((refine of_below _ ?_; repeat (first | assumption | (with_reducible first | apply below_alloc | apply pw_below_drewN | apply below_drew1)))) (first | (go_at_call 28; refine (ostiarylaw22_a.calls awA _ rfl).mono ?_; rintro e w' ⟨rfl, ⟨nd, rfl⟩⟩) | (go_at_call 62; refine (ostiarykit_SameTexts.calls 5 A4 c4 [⟨#[120]⟩, ⟨#[122]⟩] _ 2 [⟨#[120]⟩, ⟨#[122]⟩] true _ ?side1 hc4 ?side2 (by decide) awTexts).mono ?_; (case side1 => exact Kd.C_below HC4.out (by repeat (first | assumption | (with_reducible first | apply below_alloc | apply pw_below_drewN | apply below_drew1)))); (case side2 => repeat (first | exact awTwo_C _ _ _ | refine Kd.C_drewN ?_ _ | refine Kd.C_drew ?_)); rintro e w' ⟨rfl, ⟨nd, rfl⟩⟩) | (go_at_call 21; refine (sets_Least.calls 5 _ cap awOut 3 _ ?side1 hcc awLeast).mono ?_; (case side1 => exact Kd.C_below HC.out (by repeat (first | assumption | (with_reducible first | apply below_alloc | apply pw_below_drewN | apply below_drew1)))); rintro e w' ⟨rfl, hb⟩; have Z2 := below_step (by repeat (first | assumption | (with_reducible first | apply below_alloc | apply pw_below_drewN | apply below_drew1))) hb))
  all_goals
    go_wp2
    go_ret
    exact ⟨rfl, below_step HB2.out (by repeat (first | assumption | (with_reducible first | apply below_alloc | apply pw_below_drewN | apply below_drew1)))⟩
end Go.Proofs.Ytdkecfjeiookdaa.PA
/- Contracts by hand: sets.Check. -/
namespace Go.Proofs.Ytdkecfjeiookdaa.PA
open Go.RowKit Go.Maps Go.Proofs.YtdkecfjeiookdaaW.PrintWords Go.Proofs.YtdkecfjeiookdaaW.PrintLast Go.Proofs.YtdkecfjeiookdaaW.PrintMore Go.Proofs.Ytdkecfjeiookdaa.Mp
set_option linter.unusedVariables false
set_option linter.unusedSimpArgs false

theorem keyedS : Keyed Try.prog 9 := Keyed.of_law (Go.WideMaps.string_law Try.underlying9)
theorem keyS_some (x : ByteArray) (h : x.size ≤ maxLen) : (keyOf Try.prog 9 (.string x)).isSome = true := by rw [Go.WideMaps.keyOf_string_mk Try.underlying9 h]; rfl
theorem zeroNone (w : World) : (zeroValue 88).run Try.prog w = .ok (.agg #[]) w := by kernel_rfl
/-- The texts that a map met holds. -/
def metS (l : List ByteArray) (s : ByteArray) : Option Unit := if l.any (fun x => decide (x = s)) then some () else none
def encU (_ : Unit) : Value := .agg #[]
/-- May this list of data be? -/
def dataOk (l : List ByteArray) : Bool := decide (l.Nodup) && l.all (fun x => decide (x.size ≤ 65535))
def sets_Check.f (a0_0 : ByteArray) (a0_1 : Int) (a0_2 : Int) (a0_3 : Int) (l0_4 : List ByteArray) : Option (Int) :=
  if ∀ x ∈ l0_4, x.size ≤ 9223372036854775807 then
    (name_Check.f a0_0).bind fun c => if c = 0 ∧ 0 ≤ a0_1 ∧ a0_1 ≤ 65535 ∧ 0 ≤ a0_2 ∧ a0_2 ≤ 65535 ∧ 0 ≤ a0_3 ∧ a0_3 < 2147483648 ∧ 1 ≤ l0_4.length ∧ l0_4.length ≤ 64 ∧ dataOk l0_4 = true then some 0 else some 2
  else none
def dataTo (l : List ByteArray) (k : Nat) : Bool := dataOk (l.take k)
theorem dataTo_succ (l : List ByteArray) (k : Nat) (h : k < l.length) : dataTo l (k + 1) = (dataTo l k && !(metS (l.take k) l[k]).isSome && decide (l[k].size ≤ 65535)) := by
  unfold dataTo dataOk metS
  rw [List.take_succ_eq_append_getElem h, List.all_append, List.all_cons, List.all_nil, Bool.and_true]
  have hn : decide ((l.take k ++ [l[k]]).Nodup) = (decide (l.take k).Nodup && !(l.take k).any (fun x => decide (x = l[k]))) := by
    rw [Bool.eq_iff_iff]
    simp only [List.nodup_append, decide_eq_true_eq, Bool.and_eq_true, Bool.not_eq_true', List.any_eq_false]
    constructor
    · rintro ⟨h1, _, h3⟩
      exact ⟨h1, fun x hx => by simpa using h3 x hx l[k] (by simp)⟩
    · rintro ⟨h1, h2⟩
      exact ⟨h1, by simp, fun a ha b hb => by rw [List.mem_singleton.1 hb]; simpa using h2 a ha⟩
  rw [hn]
  cases (l.take k).any (fun x => decide (x = l[k])) <;> cases decide (l.take k).Nodup <;> simp
theorem metS_succ (l : List ByteArray) (k : Nat) (h : k < l.length) : metS (l.take (k + 1)) l[k] = some () ∧ ∀ s, s ≠ l[k] → metS (l.take (k + 1)) s = metS (l.take k) s := by
  unfold metS
  rw [List.take_succ_eq_append_getElem h]
  refine ⟨by rw [List.any_append, List.any_cons, decide_eq_true rfl, Bool.true_or, Bool.or_true]; rfl, fun s hs => ?_⟩
  rw [List.any_append, List.any_cons, List.any_nil, decide_eq_false (Ne.symm hs), Bool.false_or, Bool.or_false]
theorem dataTo_false (l : List ByteArray) (k : Nat) (h : dataTo l k = false) : ∀ m, k ≤ m → m ≤ l.length → dataTo l m = false := by
  intro m hk
  induction m with
  | zero => intro _; rwa [Nat.le_zero.1 hk] at h
  | succ m ih =>
    intro hm
    rcases Nat.lt_or_ge k (m + 1) with h1 | h1
    · rw [dataTo_succ l m (by omega), ih (by omega) (by omega)]; rfl
    · rwa [show m + 1 = k from by omega]

theorem below_grown_map {w A B : World} {b : Nat} (h : Below w.heap.size w A) (hg : A.grownBy B (some b)) (hb : w.heap.size ≤ b) : Below w.heap.size w B := h.grown hg h.size (fun k e => by cases e; exact hb)
def shortB (n : Int) : Bool := decide (0 ≤ n) && decide (n ≤ 65535)
set_option maxHeartbeats 4000000 in
set_option maxRecDepth 100000 in
theorem short_calls (n : Int) (w : World) : Calls Try.prog 68 #[.int .i64 n] w fun e w' => e = .returned (.bool (shortB n)) ∧ Drawn0 w w' := by
  unfold shortB
  by_cases h1 : 0 ≤ n
  · by_cases h2 : n ≤ 65535
    all_goals
      go_enter Try.func68, Try.ntmps68
      go_wp2
      go_ret
      exact ⟨by simp [h1, h2], by repeat (first | exact Drawn0.refl _ | apply Drawn0.step)⟩
  · go_enter Try.func68, Try.ntmps68
    go_wp2
    go_ret
    exact ⟨by simp [h1]; intro; omega, by repeat (first | exact Drawn0.refl _ | apply Drawn0.step)⟩
theorem short_true {n : Int} (h1 : 0 ≤ n) (h2 : n ≤ 65535) : shortB n = true := by unfold shortB; simp [h1, h2]
theorem short_false {n : Int} (h : ¬ (0 ≤ n ∧ n ≤ 65535)) : shortB n = false := by unfold shortB; rw [Bool.and_eq_false_iff]; by_cases h1 : 0 ≤ n; exact Or.inr (decide_eq_false (fun h2 => h ⟨h1, h2⟩)); exact Or.inl (decide_eq_false h1)

set_option maxHeartbeats 4000000 in
set_option maxRecDepth 100000 in
theorem sets_Check.calls (a0_0 : ByteArray) (a0_1 : Int) (a0_2 : Int) (a0_3 : Int) (A0_4 : Option Addr) (c0_4 : Nat) (l0_4 : List ByteArray) (r : Int) (w : World) (hr0_4 : Kd.C Kd.string w A0_4 l0_4.length l0_4) (hc0_4 : l0_4.length ≤ c0_4) (h : sets_Check.f a0_0 a0_1 a0_2 a0_3 l0_4 = some r) :
    Calls Try.prog 25 #[.agg #[.string a0_0, .int .i64 a0_1, .int .i64 a0_2, .int .i64 a0_3, .slice A0_4 l0_4.length c0_4]] w fun e w' => e = .returned (.int .i64 r) ∧ Below w.heap.size w w' := by
  unfold sets_Check.f at h
  split at h
  case isFalse => cases h
  rename_i hsz
  obtain ⟨c, hc, h⟩ := Option.bind_eq_some_iff.1 h
  have HR := Aside0.mk hr0_4
  have HSZ := Aside0.mk hsz
  have HN := Aside0.mk hc
  have HH := Aside0.mk h
  have hmm := @run_makeMap Try.prog
  clear hr0_4 hsz hc h
  go_enter Try.func25, Try.ntmps25
  go_upto_region 2 with fail
  have hX1 := World.alloc_heap_new w (.cells #[.string a0_0, .int .i64 a0_1, .int .i64 a0_2, .int .i64 a0_3, .slice A0_4 l0_4.length c0_4] 32)
  have HB1 := below_alloc (Below.refl w.heap.size w) (.cells #[.string a0_0, .int .i64 a0_1, .int .i64 a0_2, .int .i64 a0_3, .slice A0_4 l0_4.length c0_4] 32)
  generalize w.alloc (.cells #[.string a0_0, .int .i64 a0_1, .int .i64 a0_2, .int .i64 a0_3, .slice A0_4 l0_4.length c0_4] 32) = W1 at *
  have x0 : W1.cell? ⟨w.heap.size, 0, none⟩ = some (.string a0_0) := (blk_cell hX1 0).trans rfl
  have x1 : W1.cell? ⟨w.heap.size, 1, none⟩ = some (.int .i64 a0_1) := (blk_cell hX1 1).trans rfl
  have x2 : W1.cell? ⟨w.heap.size, 2, none⟩ = some (.int .i64 a0_2) := (blk_cell hX1 2).trans rfl
  have x3 : W1.cell? ⟨w.heap.size, 3, none⟩ = some (.int .i64 a0_3) := (blk_cell hX1 3).trans rfl
  have x4 : W1.cell? ⟨w.heap.size, 4, none⟩ = some (.slice A0_4 l0_4.length c0_4) := (blk_cell hX1 4).trans rfl
  have HX1 := Aside0.mk hX1
  have HBB := Aside0.mk HB1
  clear hX1 HB1
  by_cases h1 : c = 0
  case neg =>
    have h := HH.out
    rw [if_neg (fun hh => h1 hh.1)] at h
    obtain rfl := Option.some.inj h
    clear h
    go_wp2_with (first | (go_at_call 64; refine (name_Check.calls a0_0 c _ HN.out).mono ?_; rintro e W2 ⟨rfl, hb⟩; have HB2 := Aside0.mk (below_step HBB.out hb)))
    go_ret
    exact ⟨rfl, HB2.out⟩
  subst h1
  by_cases h2 : 0 ≤ a0_1 ∧ a0_1 ≤ 65535
  case neg =>
    have g1 := Aside0.mk (short_false h2)
    have h2' := Aside0.mk h2
    clear h2
    have h := HH.out
    rw [if_neg (fun hh => h2'.out ⟨hh.2.1, hh.2.2.1⟩)] at h
    obtain rfl := Option.some.inj h
    clear h
    go_wp2_with (first | (go_at_call 64; refine (name_Check.calls a0_0 0 _ HN.out).mono ?_; rintro e W2 ⟨rfl, hb⟩; have HB2 := Aside0.mk (below_step HBB.out hb); have z1 := pw_cell_below hb x1; have z2 := pw_cell_below hb x2; have z3 := pw_cell_below hb x3; have z4 := pw_cell_below hb x4; clear x0 x1 x2 x3 x4 hb) | (go_at_call 68; (with_reducible refine (short_calls a0_1 _).mono ?_); rintro e w' ⟨rfl, ⟨nd, rfl⟩⟩; rw [g1.out]))
    go_ret
    exact ⟨rfl, by repeat (first | exact HB2.out | apply pw_below_drewN | apply below_drew1)⟩
  have g1 := Aside0.mk (short_true h2.1 h2.2)
  have H2 := Aside0.mk h2
  clear h2
  by_cases h3 : 0 ≤ a0_2 ∧ a0_2 ≤ 65535
  case neg =>
    have g2 := Aside0.mk (short_false h3)
    have h3' := Aside0.mk h3
    clear h3
    have h := HH.out
    rw [if_neg (fun hh => h3'.out ⟨hh.2.2.2.1, hh.2.2.2.2.1⟩)] at h
    obtain rfl := Option.some.inj h
    clear h
    go_wp2_with (first | (go_at_call 64; refine (name_Check.calls a0_0 0 _ HN.out).mono ?_; rintro e W2 ⟨rfl, hb⟩; have HB2 := Aside0.mk (below_step HBB.out hb); have z1 := pw_cell_below hb x1; have z2 := pw_cell_below hb x2; have z3 := pw_cell_below hb x3; have z4 := pw_cell_below hb x4; clear x0 x1 x2 x3 x4 hb) | (go_at_call 68; (with_reducible refine (short_calls a0_1 _).mono ?_); rintro e w' ⟨rfl, ⟨nd, rfl⟩⟩; rw [g1.out]) | (go_at_call 68; (with_reducible refine (short_calls a0_2 _).mono ?_); rintro e w' ⟨rfl, ⟨nd, rfl⟩⟩; rw [g2.out]))
    go_ret
    exact ⟨rfl, by repeat (first | exact HB2.out | apply pw_below_drewN | apply below_drew1)⟩
  have g2 := Aside0.mk (short_true h3.1 h3.2)
  have H3 := Aside0.mk h3
  clear h3
  by_cases h4 : a0_3 < 0
  case pos =>
    have h4' := Aside0.mk h4
    have h := HH.out
    rw [if_neg (fun hh => by have := hh.2.2.2.2.2.1; have := h4'.out; omega)] at h
    obtain rfl := Option.some.inj h
    clear h
    go_wp2_with (first | (go_at_call 64; refine (name_Check.calls a0_0 0 _ HN.out).mono ?_; rintro e W2 ⟨rfl, hb⟩; have HB2 := Aside0.mk (below_step HBB.out hb); have z1 := pw_cell_below hb x1; have z2 := pw_cell_below hb x2; have z3 := pw_cell_below hb x3; have z4 := pw_cell_below hb x4; clear x0 x1 x2 x3 x4 hb) | (go_at_call 68; (with_reducible refine (short_calls a0_1 _).mono ?_); rintro e w' ⟨rfl, ⟨nd, rfl⟩⟩; rw [g1.out]) | (go_at_call 68; (with_reducible refine (short_calls a0_2 _).mono ?_); rintro e w' ⟨rfl, ⟨nd, rfl⟩⟩; rw [g2.out]))
    go_ret
    exact ⟨rfl, by repeat (first | exact HB2.out | apply pw_below_drewN | apply below_drew1)⟩
  by_cases h5 : 2147483648 ≤ a0_3
  case pos =>
    have h5' := Aside0.mk h5
    have h := HH.out
    rw [if_neg (fun hh => by have := hh.2.2.2.2.2.2.1; have := h5'.out; omega)] at h
    obtain rfl := Option.some.inj h
    clear h
    go_wp2_with (first | (go_at_call 64; refine (name_Check.calls a0_0 0 _ HN.out).mono ?_; rintro e W2 ⟨rfl, hb⟩; have HB2 := Aside0.mk (below_step HBB.out hb); have z1 := pw_cell_below hb x1; have z2 := pw_cell_below hb x2; have z3 := pw_cell_below hb x3; have z4 := pw_cell_below hb x4; clear x0 x1 x2 x3 x4 hb) | (go_at_call 68; (with_reducible refine (short_calls a0_1 _).mono ?_); rintro e w' ⟨rfl, ⟨nd, rfl⟩⟩; rw [g1.out]) | (go_at_call 68; (with_reducible refine (short_calls a0_2 _).mono ?_); rintro e w' ⟨rfl, ⟨nd, rfl⟩⟩; rw [g2.out]))
    go_ret
    exact ⟨rfl, by repeat (first | exact HB2.out | apply pw_below_drewN | apply below_drew1)⟩
  by_cases h6 : (l0_4.length : Int) < 1
  case pos =>
    have h6' := Aside0.mk h6
    have h := HH.out
    rw [if_neg (fun hh => by have := hh.2.2.2.2.2.2.2.1; have := h6'.out; omega)] at h
    obtain rfl := Option.some.inj h
    clear h
    go_wp2_with (first | (go_at_call 64; refine (name_Check.calls a0_0 0 _ HN.out).mono ?_; rintro e W2 ⟨rfl, hb⟩; have HB2 := Aside0.mk (below_step HBB.out hb); have z1 := pw_cell_below hb x1; have z2 := pw_cell_below hb x2; have z3 := pw_cell_below hb x3; have z4 := pw_cell_below hb x4; clear x0 x1 x2 x3 x4 hb) | (go_at_call 68; (with_reducible refine (short_calls a0_1 _).mono ?_); rintro e w' ⟨rfl, ⟨nd, rfl⟩⟩; rw [g1.out]) | (go_at_call 68; (with_reducible refine (short_calls a0_2 _).mono ?_); rintro e w' ⟨rfl, ⟨nd, rfl⟩⟩; rw [g2.out]))
    go_ret
    exact ⟨rfl, by repeat (first | exact HB2.out | apply pw_below_drewN | apply below_drew1)⟩
  by_cases h7 : 64 < (l0_4.length : Int)
  case pos =>
    have h7' := Aside0.mk h7
    have h := HH.out
    rw [if_neg (fun hh => by have := hh.2.2.2.2.2.2.2.2.1; have := h7'.out; omega)] at h
    obtain rfl := Option.some.inj h
    clear h
    go_wp2_with (first | (go_at_call 64; refine (name_Check.calls a0_0 0 _ HN.out).mono ?_; rintro e W2 ⟨rfl, hb⟩; have HB2 := Aside0.mk (below_step HBB.out hb); have z1 := pw_cell_below hb x1; have z2 := pw_cell_below hb x2; have z3 := pw_cell_below hb x3; have z4 := pw_cell_below hb x4; clear x0 x1 x2 x3 x4 hb) | (go_at_call 68; (with_reducible refine (short_calls a0_1 _).mono ?_); rintro e w' ⟨rfl, ⟨nd, rfl⟩⟩; rw [g1.out]) | (go_at_call 68; (with_reducible refine (short_calls a0_2 _).mono ?_); rintro e w' ⟨rfl, ⟨nd, rfl⟩⟩; rw [g2.out]))
    go_ret
    exact ⟨rfl, by repeat (first | exact HB2.out | apply pw_below_drewN | apply below_drew1)⟩
  go_upto_region 5 with (first | (go_at_call 64; refine (name_Check.calls a0_0 0 _ HN.out).mono ?_; rintro e W2 ⟨rfl, hb⟩; have HB2 := Aside0.mk (below_step HBB.out hb); have z1 := pw_cell_below hb x1; have z2 := pw_cell_below hb x2; have z3 := pw_cell_below hb x3; have z4 := pw_cell_below hb x4; clear x0 x1 x2 x3 x4 hb) | (go_at_call 68; (with_reducible refine (short_calls a0_1 _).mono ?_); rintro e w' ⟨rfl, ⟨nd, rfl⟩⟩; rw [g1.out]) | (go_at_call 68; (with_reducible refine (short_calls a0_2 _).mono ?_); rintro e w' ⟨rfl, ⟨nd, rfl⟩⟩; rw [g2.out]))
  have hr : Aside0 ((if dataOk l0_4 = true then some (0 : Int) else some 2) = some r) := ⟨by
    have h := HH.out
    split at h
    · rename_i hh
      rw [if_pos hh.2.2.2.2.2.2.2.2.2]
      exact h
    · rename_i hh
      rw [if_neg (fun hd => hh ⟨(by first | rfl | trivial), H2.out.1, H2.out.2, H3.out.1, H3.out.2, by omega, by omega, by omega, by omega, hd⟩)]
      exact h⟩
  have hl64 : l0_4.length ≤ 64 := by omega
  have hM3 : ∀ W : World, MapT Try.prog 9 Value.string encU (W.alloc (.map #[] 0)) W.heap.size 0 (metS (l0_4.take 0)) := fun W => (MapT.made W _ _ _ _).says (fun a _ => by rw [List.take_zero]; rfl)
  have hz5 : ∀ n, ((W2.drewN n).alloc (.map #[] 0)).cell? ⟨w.heap.size, 4, none⟩ = some (.slice A0_4 l0_4.length c0_4) := fun n => (World.cell?_alloc_lt (W2.drewN n) (.map #[] 0) ⟨w.heap.size, 4, none⟩ (World.block_lt_of_cell? W2 _ z4)).trans z4
  go_wp2
  go_loopw [2, 53] (fun v i wr => ∃ k : Nat, v = .int .i64 0 ∧ i = .int .i64 k ∧ k ≤ l0_4.length ∧ MapT Try.prog 9 Value.string encU wr W2.heap.size k (metS (l0_4.take k)) ∧ dataTo l0_4 k = true ∧ Below w.heap.size w wr) (fun _ i _ => l0_4.length - (intOf i).toNat)
  case atStart => exact ⟨0, rfl, rfl, Nat.zero_le _, hM3 _, rfl, by repeat (first | exact HB2.out | apply below_alloc | apply pw_below_drewN | apply below_drew1)⟩
  case round =>
    obtain ⟨k, rfl, rfl, hk, HM, HD, HB⟩ := hrel
    have HBx := Aside0.mk HB
    have HDx := Aside0.mk HD
    clear HB HD
    by_cases hlt : k < l0_4.length
    · obtain ⟨ad, rfl, hcell⟩ := Kd.at_string (Kd.C_below HR.out HBx.out) (k : Int) (by omega) (by omega)
      rw [Int.toNat_natCast] at hcell
      have hrd : rdOf ByteArray.empty l0_4 (k : Int) = l0_4[k] := by simp [rdOf, List.getD_eq_getElem?_getD, List.getElem?_eq_getElem hlt]
      rw [hrd] at hcell
      have hkk : (keyOf Try.prog 9 (.string l0_4[k])).isSome = true := keyS_some _ (HSZ.out _ (List.getElem_mem _))
      have HS := Aside0.mk (metS_succ l0_4 k hlt)
      have HDS := Aside0.mk (dataTo_succ l0_4 k hlt)
      have HK := Aside0.mk hkk
      clear hkk hrd
      generalize l0_4[k] = s at *
      cases hf : metS (l0_4.take k) s with
      | some u =>
        cases u
        have hd : dataOk l0_4 = false := by
          have h1 : dataTo l0_4 (k + 1) = false := by rw [HDS.out, hf]; simp
          have := dataTo_false l0_4 (k + 1) h1 l0_4.length hlt (Nat.le_refl _)
          unfold dataTo at this
          rwa [List.take_length] at this
        have h := hr.out
        rw [if_neg (by rw [hd]; decide)] at h
        obtain rfl := Option.some.inj h
        have HF := Aside0.mk hf
        clear hf h hd hr
        go_wp2_with (first | (at_lookup; refine wpList_look _ rfl _ _ 87 rfl HM keyedS Try.underlying87 (zeroNone _) rfl s rfl HK.out ?_; rw [HF.out]; (try dsimp only [encU])))
        go_ret
        exact ⟨rfl, (by repeat (first | exact HBx.out | apply below_alloc | apply pw_below_drewN | apply below_drew1))⟩
      | none =>
        by_cases h8 : 65535 < (s.size : Int)
        case pos =>
          have hd : dataOk l0_4 = false := by
            have h1 : dataTo l0_4 (k + 1) = false := by rw [HDS.out, decide_eq_false (by omega)]; simp
            have := dataTo_false l0_4 (k + 1) h1 l0_4.length hlt (Nat.le_refl _)
            unfold dataTo at this
            rwa [List.take_length] at this
          have h := hr.out
          rw [if_neg (by rw [hd]; decide)] at h
          obtain rfl := Option.some.inj h
          have HF := Aside0.mk hf
          clear hf h hd hr
          go_wp2_with (first | (at_lookup; refine wpList_look _ rfl _ _ 87 rfl HM keyedS Try.underlying87 (zeroNone _) rfl s rfl HK.out ?_; rw [HF.out]; (try dsimp only [encU])))
          go_ret
          exact ⟨rfl, (by repeat (first | exact HBx.out | apply below_alloc | apply pw_below_drewN | apply below_drew1))⟩
        have hD1 : dataTo l0_4 (k + 1) = true := by rw [HDS.out, HDx.out, hf, decide_eq_true (by omega)]; rfl
        have HD1 := Aside0.mk hD1
        have HF := Aside0.mk hf
        have HM2 := HM.alloc (.cells #[] 88)
        have HBA := Aside0.mk (below_alloc HBx.out (.cells #[] 88))
        have hn : k < maxLen := by unfold maxLen; omega
        have HSo : Aside0 (∀ a', Value.string a' ≠ Value.string s → metS (l0_4.take (k + 1)) a' = metS (l0_4.take k) a') := ⟨fun a' h => HS.out.2 a' (fun e => h (by rw [e]))⟩
        have HSi : Aside0 (∀ a', Value.string a' = Value.string s → metS (l0_4.take (k + 1)) a' = metS (l0_4.take (k + 1)) s) := ⟨fun a' h => congrArg _ (Value.string.inj h)⟩
        clear hf hD1
        go_wp2_with (first | (at_lookup; refine wpList_look _ rfl _ _ 87 rfl HM keyedS Try.underlying87 (zeroNone _) rfl s rfl HK.out ?_; rw [HF.out]; (try dsimp only [encU])) | (at_mapUpdate; refine wpList_store _ rfl _ _ _ 87 rfl HM2 keyedS Try.underlying87 hn rfl s rfl HK.out () rfl (metS (l0_4.take (k + 1))) HS.out.1 HSo.out HSi.out ?_; intro W3 hM5 hT3; have HB3 := Aside0.mk (below_grown_map HBA.out hT3.grown HB2.out.size)))
        go_roundw
        case rel => exact ⟨k + 1, rfl, by go_num, by omega, hM5, HD1.out, HB3.out⟩
        case measure => simp [intOf]; omega
    · obtain rfl : k = l0_4.length := by omega
      have hd : dataOk l0_4 = true := by have := HDx.out; unfold dataTo at this; rwa [List.take_length] at this
      have h := hr.out
      rw [if_pos hd] at h
      obtain rfl := Option.some.inj h
      clear h
      go_wp2
      go_ret
      exact ⟨rfl, HBx.out⟩
end Go.Proofs.Ytdkecfjeiookdaa.PA
/-
  DERIVED: THE SHELF's CONTRACTS AT THIS DUMP, IN PLAIN WORDS (tools/lay-plain.mjs out of 'TryShelf.lean', which tools/lay-shelf.mjs wrote): THE SAME DECLARATIONS UNDER THE SAME NAMES: 'import', 'namespace', 'open', 'def', 'theorem' AND NOTHING ELSE: no command of the shelf's: FOR A HAND-IN. Each laying: the table of numbers ('.._ren') and one theorem, a field a fact of the dump's own or the kernel's comparison; each contract: ONE APPLICATION.
-/
namespace Go.Proofs
open Go.Shelf
def Try.lays190_ren : Go.Shelf.Ren := ⟨fun | 190 => 70 | 125 => 104 | 258 => 103 | 128 => 133 | 129 => 134 | 302 => 124 | 303 => 125 | 304 => 126 | 305 => 127 | 306 => 128 | 307 => 129 | 308 => 130 | 309 => 131 | 310 => 132 | 333 => 141 | 329 => 142 | 330 => 143 | 334 => 144 | 335 => 145 | 336 => 146 | 344 => 151 | n => n, fun | 31 => 30 | 9 => 9 | 3 => 3 | 46 => 115 | 0 => 0 | 51 => 148 | 53 => 150 | 4 => 4 | 183 => 142 | 182 => 141 | 131 => 82 | 5 => 5 | 218 => 157 | 222 => 161 | 228 => 169 | 229 => 170 | n => n, fun | n => n⟩
theorem Try.lays190 : Go.Proofs.Lays.n190 Try.prog Try.lays190_ren := {
  mixed := by kernel_rfl
  f125 := Try.func104.trans (congrArg some (by kernel_rfl))
  f128 := Try.func133.trans (congrArg some (by kernel_rfl))
  f129 := Try.func134.trans (congrArg some (by kernel_rfl))
  f190 := Try.func70.trans (congrArg some (by kernel_rfl))
  f258 := Try.func103.trans (congrArg some (by kernel_rfl))
  f302 := Try.func124.trans (congrArg some (by kernel_rfl))
  f303 := Try.func125.trans (congrArg some (by kernel_rfl))
  f304 := Try.func126.trans (congrArg some (by kernel_rfl))
  f305 := Try.func127.trans (congrArg some (by kernel_rfl))
  f306 := Try.func128.trans (congrArg some (by kernel_rfl))
  f307 := Try.func129.trans (congrArg some (by kernel_rfl))
  f308 := Try.func130.trans (congrArg some (by kernel_rfl))
  f309 := Try.func131.trans (congrArg some (by kernel_rfl))
  f310 := Try.func132.trans (congrArg some (by kernel_rfl))
  f329 := Try.func142.trans (congrArg some (by kernel_rfl))
  f330 := Try.func143.trans (congrArg some (by kernel_rfl))
  f333 := Try.func141.trans (congrArg some (by kernel_rfl))
  f334 := Try.func144.trans (congrArg some (by kernel_rfl))
  f335 := Try.func145.trans (congrArg some (by kernel_rfl))
  f336 := Try.func146.trans (congrArg some (by kernel_rfl))
  f344 := Try.func151.trans (congrArg some (by kernel_rfl))
  t0 := Try.underlying0
  a0 := Try.isAgg0
  z0 := Try.sizeOf0
  v0 := Try.zeroValue0
  t3 := Try.underlying3
  a3 := Try.isAgg3
  z3 := Try.sizeOf3
  v3 := Try.zeroValue3
  t4 := Try.underlying4
  a4 := Try.isAgg4
  z4 := Try.sizeOf4
  v4 := Try.zeroValue4
  t5 := Try.underlying5
  a5 := Try.isAgg5
  z5 := Try.sizeOf5
  v5 := Try.zeroValue5
  t9 := Try.underlying9
  a9 := Try.isAgg9
  z9 := Try.sizeOf9
  v9 := Try.zeroValue9
  t31 := Try.underlying30
  a31 := Try.isAgg30
  z31 := Try.sizeOf30
  v31 := Try.zeroValue30
  t46 := Try.underlying115
  a46 := Try.isAgg115
  z46 := Try.sizeOf115
  v46 := Try.zeroValue115
  t51 := Try.underlying148
  a51 := Try.isAgg148
  z51 := Try.sizeOf148
  v51 := Try.zeroValue148
  t53 := Try.underlying150
  a53 := Try.isAgg150
  z53 := Try.sizeOf150
  v53 := Try.zeroValue150
  t131 := Try.underlying82
  a131 := Try.isAgg82
  z131 := Try.sizeOf82
  v131 := Try.zeroValue82
  t182 := Try.underlying141
  a182 := Try.isAgg141
  z182 := Try.sizeOf141
  v182 := Try.zeroValue141
  t183 := Try.underlying142
  a183 := Try.isAgg142
  z183 := Try.sizeOf142
  v183 := Try.zeroValue142
  t218 := Try.underlying157
  a218 := Try.isAgg157
  z218 := Try.sizeOf157
  v218 := Try.zeroValue157
  t222 := Try.underlying161
  a222 := Try.isAgg161
  z222 := Try.sizeOf161
  v222 := Try.zeroValue161
  t228 := Try.underlying169
  a228 := Try.isAgg169
  z228 := Try.sizeOf169
  v228 := Try.zeroValue169
  t229 := Try.underlying170
  a229 := Try.isAgg170
  z229 := Try.sizeOf170
  v229 := Try.zeroValue170 }
open Go.Sort Go.RowKit in
theorem Try.slices_Sort_string (blk off cap : Nat) (ss : List (List UInt8)) (w : World) (hH : Holds encStr w blk off ss.toArray) (hblk : blk < w.heap.size) (hsz : ss.length < 4611686018427387904) :
    Calls Try.prog 70 #[.slice (some ⟨blk, off, none⟩) ss.length cap] w fun e w' =>
      e = .returned (.tuple #[]) ∧ ∃ n os, w' = grow (putRow encStr (Sort.ahead w n) blk off (ss.mergeSort fun x y => decide (x ≤ y)).toArray) os := Any.slices_Sort_string Try.lays190 blk off cap ss w hH hblk hsz
def Try.lays193_ren : Go.Shelf.Ren := ⟨fun | 193 => 71 | n => n, fun | 31 => 30 | 9 => 9 | 4 => 4 | 3 => 3 | 0 => 0 | n => n, fun | n => n⟩
theorem Try.lays193 : Go.Proofs.Lays.n193 Try.prog Try.lays193_ren := {
  mixed := by kernel_rfl
  f193 := Try.func71.trans (congrArg some (by kernel_rfl))
  t0 := Try.underlying0
  a0 := Try.isAgg0
  z0 := Try.sizeOf0
  v0 := Try.zeroValue0
  t3 := Try.underlying3
  a3 := Try.isAgg3
  z3 := Try.sizeOf3
  v3 := Try.zeroValue3
  t4 := Try.underlying4
  a4 := Try.isAgg4
  z4 := Try.sizeOf4
  v4 := Try.zeroValue4
  t9 := Try.underlying9
  a9 := Try.isAgg9
  z9 := Try.sizeOf9
  v9 := Try.zeroValue9
  t31 := Try.underlying30
  a31 := Try.isAgg30
  z31 := Try.sizeOf30
  v31 := Try.zeroValue30 }
open Go.RowKit Go.Lib in
/-- slices.Equal at []string: "Equal reports whether two slices are equal: the same length and all elements equal. If the lengths are different, Equal returns false. Otherwise, the elements are compared in increasing index order, and the comparison stops at the first unequal pair. Empty and nil slices are considered equal.": IT RETURNS WHETHER THE TWO LISTS OF ELEMENTS ARE ONE; the world is as it was but for the count of draws (the test 's1[i] != s2[i]' has two reads, whose order the model draws, once a round). 'xs', 'ys': what the cells behind the two addresses hold (the spare capacity too, if you have it); 'xs.take n', 'ys.take m': the elements. THE TWO SLICES MAY OVERLAP. (LAID: no walk: one application.) -/
theorem Try.slices_Equal_string (b1 o1 n c b2 o2 m d : Nat) (xs ys : List ByteArray) (w : World) (hx : n ≤ xs.length) (hy : m ≤ ys.length) (hbig : n ≤ 9223372036854775807) (hbig2 : m ≤ 9223372036854775807) (hc1 : ∀ j, j < xs.length → w.cell? ⟨b1, o1 + j, none⟩ = some (.string (xs.getD j ByteArray.empty))) (hc2 : ∀ j, j < ys.length → w.cell? ⟨b2, o2 + j, none⟩ = some (.string (ys.getD j ByteArray.empty))) :
    Calls Try.prog 71 #[.slice (some ⟨b1, o1, none⟩) n c, .slice (some ⟨b2, o2, none⟩) m d] w fun e w' => e = .returned (.bool (decide (xs.take n = ys.take m))) ∧ ∃ q, w' = w.drewN q := Any.slices_Equal_string Try.lays193 b1 o1 n c b2 o2 m d xs ys w hx hy hbig hbig2 hc1 hc2
open Go.RowKit Go.Lib in
/-- The same where the first is of length 0 (a nil one too): no cell is asked for. (LAID: no walk: one application.) -/
theorem Try.slices_Equal_string_empty (a1 a2 : Option Addr) (c m d : Nat) (w : World) (hbig2 : m ≤ 9223372036854775807) :
    Calls Try.prog 71 #[.slice a1 0 c, .slice a2 m d] w fun e w' => e = .returned (.bool (decide (m = 0))) ∧ w' = w := Any.slices_Equal_string_empty Try.lays193 a1 a2 c m d w hbig2
open Go.RowKit Go.Sort in
/-- .. and plain. (LAID: no walk: one application.) -/
theorem Try.slices_Sort_string_none (p : Option Addr) (cap : Nat) (w : World) :
    Calls Try.prog 70 #[.slice p 0 cap] w fun e w' => e = .returned (.tuple #[]) ∧ w' = w := Any.slices_Sort_string_none Try.lays190 p cap w
open Go.RowKit Go.Lib in
theorem Try.slices_Equal_string_lens (a1 a2 : Option Addr) (n c m d : Nat) (w : World) (hnm : n ≠ m) :
    Calls Try.prog 71 #[.slice a1 n c, .slice a2 m d] w fun e w' => e = .returned (.bool false) ∧ w' = w := Any.slices_Equal_string_lens Try.lays193 a1 a2 n c m d w hnm
end Go.Proofs
/- Contracts by hand: slices.Clone, slices.Sort and slices.Equal of texts, as the printed walks read rows. -/
namespace Go.Proofs.Ytdkecfjeiookdaa.PA
open Go.RowKit Go.Maps Go.Sort Go.Proofs.YtdkecfjeiookdaaW.PrintWords Go.Proofs.YtdkecfjeiookdaaW.PrintLast Go.Proofs.YtdkecfjeiookdaaW.PrintMore
set_option linter.unusedVariables false
set_option linter.unusedSimpArgs false

theorem infoT : (Try.prog.info? 9).map (fun i => (i.zero, i.size, i.bytes)) = some (some (.string ⟨#[]⟩), 1, 16) := by kernel_rfl
def slices_Clone_string_string.f (l0 : List ByteArray) : Option (List ByteArray) := if l0.length * 16 ≤ 140737488355328 then some l0 else none
set_option maxHeartbeats 4000000 in
set_option maxRecDepth 100000 in
theorem slices_Clone_string_string.calls (A0 : Option Addr) (c0 : Nat) (l0 : List ByteArray) (r : List ByteArray) (w : World) (hr0 : Kd.C Kd.string w A0 l0.length l0) (hc0 : l0.length ≤ c0) (h : slices_Clone_string_string.f l0 = some r) :
    Calls Try.prog 69 #[.slice A0 l0.length c0] w fun e w' => ∃ v0_ : Value, e = .returned (v0_) ∧ Kd.R Kd.string 9 w' w.heap.size (fun _ => True) v0_ r ∧ Below w.heap.size w w' := by
  unfold slices_Clone_string_string.f at h
  split at h
  case isFalse => cases h
  rename_i hs
  obtain rfl := Option.some.inj h
  clear h
  have q22 : ∀ (w : World) (a : Option Addr) (n c n' c' : Nat), (binOp .eql 30 (.slice a n c) (.slice none n' c')).run Try.prog w = .ok (.bool a.isNone) w := fun w a n c n' c' => Lib.run_eql_slice_nil w _ _ a n c n' c' Try.underlying30
  have HR := Aside0.mk hr0
  have HS := Aside0.mk hs
  cases A0 with
  | none =>
    have h0 : l0 = [] := by
      rcases Nat.eq_zero_or_pos l0.length with h0 | h0
      · exact List.length_eq_zero_iff.1 h0
      · obtain ⟨ad, e, _⟩ := hr0.2.2 h0
        cases e
    subst h0
    go_enter Try.func69, Try.ntmps69
    go_wp2
    go_ret
    exact ⟨_, rfl, Kd.R_nil _ _ _ _ _, Below.refl _ _⟩
  | some ad =>
    clear hr0 hs
    go_enter Try.func69, Try.ntmps69
    go_wp2_with (first | ((with_reducible refine gate_dst (N := 5) rfl ?_); refine Kd.R_lit Kd.string (w0 := w) w.heap.size 9 rfl (N := 5) rfl (xs := ([] : List ByteArray)) (inner := []) (ok := fun _ => True) (okp := fun _ => True) ?hr ?hp (fun _ hk => hk) trivial (Below.refl _ _) (Nat.le_refl _) (by simp) ?_; (case hr => first | (go_simp; done) | (go_simp; rfl)); (case hp => exact (Reps.none _ _)); intro v1 w1 hR1 hB1 hg1 hat1; have HR1 := Aside0.mk hR1; have HB1 := Aside0.mk hB1; clear hR1 hB1 hg1 hat1) | (at_builtin; refine Kd.R_append_rows Kd.string (w0 := w) w.heap.size rfl (.tmp 5) (.tmp 6) 30 9 (.string ⟨#[]⟩) 16 rfl Try.underlying30 infoT rfl (by decide) (by omega) v1 [] l0 (some ad) _ _ (fun _ => True) (fun _ => False) rfl rfl HR1.out (Kd.C_below HR.out HB1.out) (fun _ _ h => h) (fun _ h => h.elim) (fun _ _ => trivial) HB1.out HB1.out.size (by simpa using HS.out) ?_; intro v2 w2 hR2 hB2 hg2 hat2; rw [List.nil_append] at hR2))
    go_ret
    exact ⟨_, rfl, hR2, hB2⟩

/-- A list of texts, sorted. -/
def sortT (xs : List ByteArray) : List ByteArray := ((xs.map fun x => x.data.toList).mergeSort fun x y => decide (x ≤ y)).map fun l => ⟨l.toArray⟩
theorem sortT_length (xs : List ByteArray) : (sortT xs).length = xs.length := by simp [sortT]
theorem sortT_enc (xs : List ByteArray) : (sortT xs).map Value.string = ((xs.map fun x => x.data.toList).mergeSort fun x y => decide (x ≤ y)).map encStr := by
  simp only [sortT, List.map_map]
  rfl
theorem slices_Sort_texts (base : Nat) (ok : Nat → Prop) (v : Value) (xs : List ByteArray) (w : World) (h : Kd.R Kd.string 9 w base ok v xs) (hl : xs.length < 4611686018427387904) :
    Calls Try.prog 70 #[v] w fun e w' => e = .returned (.tuple #[]) ∧ Kd.R Kd.string 9 w' base ok v (sortT xs) ∧ w.grownBy w' v.ownBlock := by
  have ho := Kd.own_of_R h
  have hok := h.1
  rcases ho.2 with ⟨rfl, h0⟩ | ⟨g, cap, cur, rfl, hg, hb, h1, h2, h3, h4⟩
  · have hx : xs = [] := List.length_eq_zero_iff.1 h0
    subst hx
    refine (Try.slices_Sort_string_none none 0 w).mono ?_
    rintro e w' ⟨rfl, rfl⟩
    exact ⟨rfl, by rw [show sortT [] = [] from by simp [sortT]]; exact h, World.grownBy.refl _ _⟩
  · have ht : cur.toList.take (xs.map fun x => x.data.toList).length = (xs.map fun x => x.data.toList).map encStr := by
      rw [List.length_map, List.map_map]
      rw [Nat.mul_one] at h4
      exact h4
    have key := Try.slices_Sort_string g 0 cap (xs.map fun x => x.data.toList) w (holds_of_block hb ht) (Array.getElem?_eq_some_iff.1 hb).1 (by simpa using hl)
    rw [List.length_map] at key
    refine key.mono ?_
    rintro e w' ⟨rfl, n, os, rfl⟩
    refine ⟨rfl, Kd.R_of_own (enc := Value.string) ?_ hok, grownBy_sorted _⟩
    have := ownsRow_sorted (n := n) (os := os) (ts := (xs.map fun x => x.data.toList).mergeSort fun x y => decide (x ≤ y)) (ss := xs.map fun x => x.data.toList) (by simp) hg hb (by simpa using h1) h2 h3
    rw [List.length_map, ← sortT_enc] at this
    rw [sortT_length]
    exact this
theorem slices_Equal_texts (base1 base2 : Nat) (ok1 ok2 : Nat → Prop) (v1 v2 : Value) (xs ys : List ByteArray) (w : World) (h1 : Kd.R Kd.string 9 w base1 ok1 v1 xs) (h2 : Kd.R Kd.string 9 w base2 ok2 v2 ys) :
    Calls Try.prog 71 #[v1, v2] w fun e w' => e = .returned (.bool (decide (xs = ys))) ∧ Drawn0 w w' := by
  obtain ⟨A1, c1, rfl, hc1, hC1⟩ := Kd.R_reads h1
  obtain ⟨A2, c2, rfl, hc2, hC2⟩ := Kd.R_reads h2
  have hb1 := hC1.2.1
  have hb2 := hC2.2.1
  by_cases hlen : xs.length = ys.length
  · rcases Nat.eq_zero_or_pos xs.length with h0 | h0
    · have hx : xs = [] := List.length_eq_zero_iff.1 h0
      have hy : ys = [] := List.length_eq_zero_iff.1 (hlen ▸ h0)
      subst hx
      subst hy
      refine (Try.slices_Equal_string_empty A1 A2 c1 0 c2 w (by omega)).mono ?_
      rintro e w' ⟨rfl, rfl⟩
      exact ⟨rfl, Drawn0.refl _⟩
    · obtain ⟨g1, d1, e1, _⟩ := Kd.R_form h1 h0
      obtain ⟨g2, d2, e2, _⟩ := Kd.R_form h2 (hlen ▸ h0)
      cases e1
      cases e2
      refine (Try.slices_Equal_string g1 0 xs.length c1 g2 0 ys.length c2 xs ys w (Nat.le_refl _) (Nat.le_refl _) hb1 hb2 (fun j hj => ?_) (fun j hj => ?_)).mono ?_
      · have := (Kd.R_cell ByteArray.empty h1 (j : Int) (by omega) (by omega)).1
        simpa [rdOf] using this
      · have := (Kd.R_cell ByteArray.empty h2 (j : Int) (by omega) (by omega)).1
        simpa [rdOf] using this
      · rintro e w' ⟨rfl, q, rfl⟩
        rw [List.take_length, List.take_length]
        exact ⟨rfl, ⟨q, rfl⟩⟩
  · refine (Try.slices_Equal_string_lens A1 A2 xs.length c1 ys.length c2 w hlen).mono ?_
    rintro e w' ⟨rfl, rfl⟩
    exact ⟨by rw [decide_eq_false (fun h => hlen (by rw [h]))], Drawn0.refl _⟩
end Go.Proofs.Ytdkecfjeiookdaa.PA
