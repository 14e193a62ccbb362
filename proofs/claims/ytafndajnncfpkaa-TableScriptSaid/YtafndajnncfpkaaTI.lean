/- Contracts by hand: a table's Idle. -/
import Derived.Test.YtafndajnncfpkaaTB
namespace Go.Proofs.Ytafndajnncfpkaa.Ti
open Go Go.RowKit Go.Maps Go.Proofs.YtafndajnncfpkaaW.PrintWords Go.Proofs.YtafndajnncfpkaaW.PrintLast Go.Proofs.YtafndajnncfpkaaW.PrintMore Go.Proofs.Ytafndajnncfpkaa.Mp Go.Proofs.Ytafndajnncfpkaa.Tm Go.Proofs.Ytafndajnncfpkaa.Tb
attribute [local go_sem] max2_int min2_int max_two min_two
set_option linter.unusedVariables false
set_option linter.unusedSimpArgs false

/-- The clients, one of them said anew. -/
def idleL (L : List Cl) (k : Int) (is : Bool) : List Cl := L.map fun c => if c.1 = k then (c.1, c.2.1, is) else c
theorem grown_drewN (w : World) (n : Nat) (row : Option Nat) : w.grownBy (w.drewN n) row := ⟨rfl, rfl, rfl, Nat.le_refl _, fun _ _ _ => rfl⟩
theorem tabF_cons (c : Cl) (L : List Cl) (k : Int) : tabF (c :: L) k = if c.1 = k then some c.2 else tabF L k := by
  unfold tabF
  by_cases h : c.1 = k
  · rw [List.find?_cons_of_pos (by exact decide_eq_true h), if_pos h]
    rfl
  · rw [List.find?_cons_of_neg (by simpa using h), if_neg h]
theorem tabF_idle (L : List Cl) (k : Int) (is : Bool) (a : Int) : tabF (idleL L k is) a = if a = k then (tabF L a).map (fun x => (x.1, is)) else tabF L a := by
  induction L with
  | nil => simp [idleL, tabF]
  | cons c L ih =>
    have e : idleL (c :: L) k is = (if c.1 = k then (c.1, c.2.1, is) else c) :: idleL L k is := rfl
    rw [e, tabF_cons, tabF_cons, ih]
    by_cases h : c.1 = k
    · rw [if_pos h]
      by_cases h2 : c.1 = a
      · have h3 : a = k := h2.symm.trans h
        rw [if_pos h2, if_pos h2, if_pos h3]
        rfl
      · rw [if_neg h2, if_neg h2]
    · rw [if_neg h]
      by_cases h2 : c.1 = a
      · have h3 : a ≠ k := fun e => h (h2.trans e)
        rw [if_pos h2, if_pos h2, if_neg h3]
      · rw [if_neg h2, if_neg h2]
theorem encI_inj {a k : Int} : (Value.int .i64) a = (Value.int .i64) k ↔ a = k := by
  constructor
  · intro h
    injection h
  · rintro rfl
    rfl
theorem idle_nil (k : Int) (is : Bool) (w : World) : Calls Try.prog 12 #[.pointer none, .int .i64 k, .bool is] w fun e w' => e = .returned (.int .i64 1) ∧ w = w' := by
  go_enter Try.func12, Try.ntmps12
  go_wp2_with (first | (go_at_call 25; (with_reducible refine (none_nil _).mono ?_); rintro e w' ⟨rfl, rfl⟩))
  go_ret
  exact ⟨rfl, rfl⟩
set_option maxRecDepth 100000 in
set_option maxHeartbeats 1000000 in
theorem idle_lacks (T b n : Nat) (most : Int) (L : List Cl) (k : Int) (is : Bool) (w : World) (h : TabAt w T b n most L) (hm : most ≠ 0) (hk : wfI k) (hx : tabF L k = none) : Calls Try.prog 12 #[.pointer (some ⟨T, 0, none⟩), .int .i64 k, .bool is] w fun e w' => e = .returned (.int .i64 6) ∧ Below w.heap.size w w' := by
  obtain ⟨c0, c1⟩ := h.cells
  have HM := h.2
  have HK := Lib.hid (show (keyOf Try.prog 3 ((Value.int .i64) k)).isSome = true from by rw [keyZ hk]; rfl)
  have hm' : (most == 0) = false := beq_eq_false_iff_ne.2 hm
  have HX := Lib.hid hx
  clear hx h
  go_enter Try.func12, Try.ntmps12
  go_wp2_with (first | (go_at_call 25; (with_reducible refine (none_at T most _ c0).mono ?_); rintro e w' ⟨rfl, rfl⟩) | (at_lookup; (refine wpList_look _ rfl _ _ 52 rfl HM keyedI Try.underlying52 (zeroC _) rfl k rfl HK.out ?_); rw [HX.out]; (try simp only [encC])))
  go_ret
  exact ⟨rfl, (Below.refl _ _).alloc (Nat.le_refl _) _⟩
set_option maxRecDepth 100000 in
set_option maxHeartbeats 1000000 in
theorem idle_there (T b n : Nat) (most : Int) (L : List Cl) (k : Int) (is : Bool) (x : Int × Bool) (w : World) (h : TabAt w T b n most L) (hm : most ≠ 0) (hk : wfI k) (hx : tabF L k = some x) (hn : n < maxLen) : Calls Try.prog 12 #[.pointer (some ⟨T, 0, none⟩), .int .i64 k, .bool is] w fun e w' => e = .returned (.int .i64 0) ∧ TabAt w' T b (n + 1) most (idleL L k is) ∧ w.grownBy w' (some b) := by
  have hlt := h.lt
  obtain ⟨c0, c1⟩ := h.cells
  have HM := h.2
  have H := Lib.hid h
  have HK := Lib.hid (show (keyOf Try.prog 3 ((Value.int .i64) k)).isSome = true from by rw [keyZ hk]; rfl)
  have hm' : (most == 0) = false := beq_eq_false_iff_ne.2 hm
  have HX := Lib.hid hx
  have hne : T ≠ w.heap.size := by omega
  clear hx h
  go_enter Try.func12, Try.ntmps12
  go_upto_region 7 with (first | (go_at_call 25; (with_reducible refine (none_at T most _ c0).mono ?_); rintro e w' ⟨rfl, rfl⟩) | (at_lookup; (refine wpList_look _ rfl _ _ 52 rfl HM keyedI Try.underlying52 (zeroC _) rfl k rfl HK.out ?_); rw [HX.out]; (try simp only [encC])))
  obtain ⟨W', hrun, hm1, hm2⟩ := MapT.store (f' := tabF (idleL L k is)) ((MapT.alloc HM (.cells #[.int .i64 x.1, .bool is] 62)).drewN 1) keyedI Try.underlying52 hn HK.out (x.1, is) (by rw [tabF_idle, if_pos rfl, HX.out]; rfl) (fun a ha => by rw [tabF_idle, if_neg (fun e => ha (encI_inj.2 e))]) (fun a ha => by rw [encI_inj.1 ha])
  have hrun' : (Instr.mapUpdate 52 (.map (some b)) (.int .i64 k) (.agg #[.int .i64 x.1, .bool is])).run Try.prog (w.alloc (Obj.cells #[Value.int IntKind.i64 x.fst, Value.bool is] 62)).drew = .ok () W' := hrun
  clear hrun
  go_region
  rename_i hnext
  refine hnext _ _ ?_
  clear hnext
  go_wp2
  go_ret
  have hg := ((World.grownBy_alloc w _ (some b)).trans (grown_drewN _ 1 (some b))).trans hm2.grown
  exact ⟨rfl, ⟨(hg.block T hlt.1 (by simpa using (Ne.symm H.out.ne))).trans H.out.1, hm1⟩, hg⟩
end Go.Proofs.Ytafndajnncfpkaa.Ti
