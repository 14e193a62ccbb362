/- Contracts by hand: cmp.Compare, cmp.Or at two, a table's two closures. -/
import Derived.Test.YtafndajnncfpkaaTB
import Derived.Test.YtafndajnncfpkaaMD
import Derived.Shelf.GgClosure.Gives
import Derived.StillTailTactics
namespace Go.Proofs.Ytafndajnncfpkaa.Tc
open Go Go.RowKit Go.Maps Go.Proofs.YtafndajnncfpkaaW.PrintWords Go.Proofs.YtafndajnncfpkaaW.PrintLast Go.Proofs.YtafndajnncfpkaaW.PrintMore Go.Proofs.Ytafndajnncfpkaa.Mp Go.Proofs.Ytafndajnncfpkaa.Tm Go.Proofs.Ytafndajnncfpkaa.Tb
attribute [local go_sem] max2_int min2_int max_two min_two
set_option linter.unusedVariables false
set_option linter.unusedSimpArgs false

def cmpI (x y : Int) : Int := if x < y then -1 else if x > y then 1 else 0
theorem isnan (x : Int) (w : World) : Calls Try.prog 40 #[.int .i64 x] w fun e w' => e = .returned (.bool false) ∧ w = w' := by
  go_enter Try.func40, Try.ntmps40
  go_wp2
  go_ret
  have e : (!(x == x)) = false := by simp
  simp
theorem compare (x y : Int) (w : World) : Calls Try.prog 35 #[.int .i64 x, .int .i64 y] w fun e w' => e = .returned (.int .i64 (cmpI x y)) ∧ w = w' := by
  by_cases h1 : x < y
  · have h1' : decide (x < y) = true := decide_eq_true h1
    have e : cmpI x y = -1 := by rw [cmpI, if_pos h1]
    rw [e]
    go_enter Try.func35, Try.ntmps35
    go_wp2_with (first | (go_at_call 40; (with_reducible refine (isnan _ _).mono ?_); rintro e w' ⟨rfl, rfl⟩))
    go_ret
    exact ⟨rfl, rfl⟩
  · have h1' : decide (x < y) = false := decide_eq_false h1
    by_cases h2 : y < x
    · have h2' : decide (y < x) = true := decide_eq_true h2
      have e : cmpI x y = 1 := by rw [cmpI, if_neg h1, if_pos h2]
      rw [e]
      go_enter Try.func35, Try.ntmps35
      go_wp2_with (first | (go_at_call 40; (with_reducible refine (isnan _ _).mono ?_); rintro e w' ⟨rfl, rfl⟩))
      go_ret
      exact ⟨rfl, rfl⟩
    · have h2' : decide (y < x) = false := decide_eq_false h2
      have e : cmpI x y = 0 := by rw [cmpI, if_neg h1, if_neg h2]
      rw [e]
      go_enter Try.func35, Try.ntmps35
      go_wp2_with (first | (go_at_call 40; (with_reducible refine (isnan _ _).mono ?_); rintro e w' ⟨rfl, rfl⟩))
      go_ret
      exact ⟨rfl, rfl⟩
theorem or2 (G : Nat) (x y : Int) (w : World) (h0 : w.cell? ⟨G, 0, none⟩ = some (.int .i64 x)) (h1 : w.cell? ⟨G, 1, none⟩ = some (.int .i64 y)) : Calls Try.prog 34 #[.slice (some ⟨G, 0, none⟩) 2 2] w fun e w' => e = .returned (.int .i64 (if x = 0 then y else x)) ∧ w = w' := by
  generalize hr : (if x = 0 then y else x) = r
  have HR := Lib.hid hr
  clear hr
  go_enter Try.func34, Try.ntmps34
  go_wp2
  go_loopg [8] 2 (fun kq v w' => w = w' ∧ ((kq = 2 ∧ v = .int .i64 0) ∨ (kq = 1 ∧ v = .int .i64 1 ∧ x = 0) ∨ (kq = 0 ∧ v = .int .i64 2 ∧ x = 0 ∧ y = 0)))
  case atStart => exact ⟨rfl, Or.inl ⟨rfl, rfl⟩⟩
  case round =>
    obtain ⟨rfl, ⟨rfl, rfl⟩ | ⟨rfl, rfl, hx⟩ | ⟨rfl, rfl, hx, hy⟩⟩ := hrel
    · by_cases hx : x = 0
      · have hx' : (x != 0) = false := by rw [hx]; rfl
        go_wp2
        go_roundg 1
        case measure => omega
        case rel => exact ⟨rfl, Or.inr (Or.inl ⟨rfl, rfl, hx⟩)⟩
      · have hx' : (x != 0) = true := bne_iff_ne.2 hx
        go_wp2
        go_ret
        exact ⟨by rw [← HR.out, if_neg hx]; rfl, rfl⟩
    · by_cases hy : y = 0
      · have hy' : (y != 0) = false := by rw [hy]; rfl
        go_wp2
        go_roundg 0
        case measure => omega
        case rel => exact ⟨rfl, Or.inr (Or.inr ⟨rfl, rfl, hx, hy⟩)⟩
      · have hy' : (y != 0) = true := bne_iff_ne.2 hy
        go_wp2
        go_ret
        exact ⟨by rw [← HR.out, if_pos hx]; rfl, rfl⟩
    · go_wp2
      go_ret
      exact ⟨by rw [← HR.out, if_pos hx, hy]; rfl, rfl⟩
theorem field0 (x : Int) (y : Bool) (w : World) : (Instr.field 62 (.agg #[.int .i64 x, .bool y]) 0).run Try.prog w = .ok (.int .i64 x) w := by kernel_rfl
theorem field1 (x : Int) (y : Bool) (w : World) : (Instr.field 62 (.agg #[.int .i64 x, .bool y]) 1).run Try.prog w = .ok (.bool y) w := by kernel_rfl
attribute [local go_sem] field0 field1
/-- Whether a client is idle (none: not). -/
def idleOf (L : List Cl) (k : Int) : Bool := match tabF L k with | some c => c.2 | none => false
theorem look1_idle (x : Option (Int × Bool)) : (match x with | some v => encC v | none => (.agg #[.int .i64 0, .bool false] : Value)) = .agg #[.int .i64 (whenV x), .bool (match x with | some c => c.2 | none => false)] := by
  cases x <;> rfl
set_option maxRecDepth 100000 in
set_option maxHeartbeats 1000000 in
theorem goes1 (C T b n : Nat) (most : Int) (L : List Cl) (k : Int) (w : World) (h : TabAt w T b n most L) (hC : w.cell? ⟨C, 0, none⟩ = some (.pointer (some ⟨T, 0, none⟩))) (hk : wfI k) : Calls Try.prog 31 #[.int .i64 k, .pointer (some ⟨C, 0, none⟩)] w fun e w' => e = .returned (.bool (!idleOf L k)) ∧ ∃ q, w' = w.drewN q := by
  obtain ⟨c0, c1⟩ := h.cells
  have HM := h.2
  have HK := Lib.hid (show (keyOf Try.prog 3 ((Value.int .i64) k)).isSome = true from by rw [keyZ hk]; rfl)
  cases hx : tabF L k
  all_goals
    have e := Lib.hid (show idleOf L k = _ from by rw [idleOf, hx])
    simp only [] at e
    rw [e.out]
    have HX := Lib.hid hx
    clear hx e
    try clear h
    go_enter Try.func31, Try.ntmps31
    go_wp2_with (first | (at_lookup; (refine wpList_look1 _ rfl _ _ 52 rfl HM keyedI Try.underlying52 (zeroC _) rfl k rfl HK.out ?_); rw [HX.out]; (try simp only [encC])))
    go_ret
    exact ⟨rfl, 0, rfl⟩
/-- When a client was touched (none: 0). -/
def atOf (L : List Cl) (k : Int) : Int := whenV (tabF L k)
def cmpT (L : List Cl) (x y : Int) : Int := if cmpI (atOf L x) (atOf L y) = 0 then cmpI x y else cmpI (atOf L x) (atOf L y)
theorem look1_at {W : World} {b n : Nat} {L : List Cl} (h : TMap W b n L) {k : Int} (hk : wfI k) : ∃ i, (Instr.lookup 52 (.map (some b)) (.int .i64 k) false).run Try.prog W = .ok (.agg #[.int .i64 (atOf L k), .bool i]) W := by
  have := MapT.look1 h keyedI Try.underlying52 (zeroC W) (a := k) (by rw [keyZ hk]; rfl)
  rw [this]
  unfold atOf
  cases tabF L k with
  | none => exact ⟨_, rfl⟩
  | some c => exact ⟨_, rfl⟩
set_option maxRecDepth 100000 in
set_option maxHeartbeats 1000000 in
theorem goes2 (C T b n : Nat) (most : Int) (L : List Cl) (x y : Int) (w : World) (h : TabAt w T b n most L) (hC : w.cell? ⟨C, 0, none⟩ = some (.pointer (some ⟨T, 0, none⟩))) (hx : wfI x) (hy : wfI y) : Calls Try.prog 33 #[.int .i64 x, .int .i64 y, .pointer (some ⟨C, 0, none⟩)] w fun e w' => e = .returned (.int .i64 (cmpT L x y)) ∧ ∃ q os', w' = Sort.grow (w.drewN q) os' := by
  obtain ⟨c0, c1⟩ := h.cells
  obtain ⟨ix, hlx⟩ := look1_at (W := w.drew) (MapT.drewN h.2 1) hx
  obtain ⟨iy, hly⟩ := look1_at (W := w.drew) (MapT.drewN h.2 1) hy
  unfold cmpT
  generalize atOf L x = p at *
  generalize atOf L y = q at *
  have CO := Lib.hid (fun g => or2 g (cmpI p q) (cmpI x y))
  generalize (if cmpI p q = 0 then cmpI x y else cmpI p q) = r at *
  clear h
  go_enter Try.func33, Try.ntmps33
  go_upto_region 1 with fail
  go_still_tail 18, (by kernel_rfl)
  still_call ((compare p q _).mono fun _ _ h => ⟨h.1, h.2.symm⟩)
  repeat still_step
  still_call ((compare x y _).mono fun _ _ h => ⟨h.1, h.2.symm⟩)
  refine wpStill_nil ?_
  change wpList _ _ _ _ _ w.drew
  have hD : w.drew = w.drewN 1 := rfl
  have HD := Lib.hid hD
  clear hD hlx hly c0 c1 hC
  generalize w.drew = w2 at *
  generalize cmpI p q = u at *
  generalize cmpI x y = v at *
  go_wp2_with (first | (go_at_call 34; refine (CO.out _ _ (by simp) (by simp)).mono ?_; rintro e w' ⟨rfl, rfl⟩))
  go_ret
  refine ⟨rfl, 1, #[Obj.cells #[Value.int IntKind.i64 u, Value.int IntKind.i64 v] 3], ?_⟩
  rw [HD.out]
  exact Sort.alloc_eq_grow _ _
end Go.Proofs.Ytafndajnncfpkaa.Tc
