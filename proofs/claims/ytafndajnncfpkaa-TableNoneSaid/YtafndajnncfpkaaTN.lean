/- TableNone. -/
import Derived.Test.YtafndajnncfpkaaTZ
namespace Go.Proofs.Ytafndajnncfpkaa.Tn
open Go Go.RowKit Go.Maps Go.Sort Go.Shelf Go.Proofs.YtafndajnncfpkaaW.PrintWords Go.Proofs.YtafndajnncfpkaaW.PrintLast Go.Proofs.YtafndajnncfpkaaW.PrintMore Go.Proofs.Ytafndajnncfpkaa.Mp Go.Proofs.Ytafndajnncfpkaa.Tm Go.Proofs.Ytafndajnncfpkaa.Tb Go.Proofs.Ytafndajnncfpkaa.Ta Go.Proofs.Ytafndajnncfpkaa.Tt Go.Proofs.Ytafndajnncfpkaa.Tz
set_option linter.unusedVariables false
set_option linter.unusedSimpArgs false
/-- A pointer to no table: nil, or to one that New did not make. -/
def NoTab (w : World) (p : Value) : Prop := p = .pointer none ∨ ∃ T, p = .pointer (some ⟨T, 0, none⟩) ∧ w.cell? ⟨T, 0, none⟩ = some (.int .i64 0)
theorem no_none (w : World) (p : Value) (h : NoTab w p) : Calls Try.prog 25 #[p] w fun e w' => e = .returned (.bool true) ∧ w = w' := by
  rcases h with rfl | ⟨T, rfl, h⟩
  · exact none_nil w
  · exact none_at T 0 w h
theorem no_len (p : Value) (w : World) (h : NoTab w p) : Calls Try.prog 13 #[p] w fun e w' => e = .returned (.int .i64 0) ∧ w = w' := by
  have H := Lib.hid h
  clear h
  go_enter Try.func13, Try.ntmps13
  go_wp2_with (first | (go_at_call 25; (with_reducible refine (no_none _ _ H.out).mono ?_); rintro e w' ⟨rfl, rfl⟩))
  go_ret
  exact ⟨rfl, rfl⟩
theorem no_when (p : Value) (k : Int) (w : World) (h : NoTab w p) : Calls Try.prog 17 #[p, .int .i64 k] w fun e w' => e = .returned (.tuple #[.int .i64 0, .bool false]) ∧ w = w' := by
  have H := Lib.hid h
  clear h
  go_enter Try.func17, Try.ntmps17
  go_wp2_with (first | (go_at_call 25; (with_reducible refine (no_none _ _ H.out).mono ?_); rintro e w' ⟨rfl, rfl⟩))
  go_ret2
  exact ⟨rfl, rfl⟩
theorem no_idle (p : Value) (k : Int) (is : Bool) (w : World) (h : NoTab w p) : Calls Try.prog 12 #[p, .int .i64 k, .bool is] w fun e w' => e = .returned (.int .i64 1) ∧ w = w' := by
  have H := Lib.hid h
  clear h
  go_enter Try.func12, Try.ntmps12
  go_wp2_with (first | (go_at_call 25; (with_reducible refine (no_none _ _ H.out).mono ?_); rintro e w' ⟨rfl, rfl⟩))
  go_ret
  exact ⟨rfl, rfl⟩
theorem no_has (p : Value) (k : Int) (w : World) (h : NoTab w p) : Calls Try.prog 19 #[p, .int .i64 k] w fun e w' => e = .returned (.bool false) ∧ w = w' := by
  have H := Lib.hid h
  clear h
  go_enter Try.func19, Try.ntmps19
  go_wp2_with (first | (go_at_call 17; (with_reducible refine (no_when _ _ _ H.out).mono ?_); rintro e w' ⟨rfl, rfl⟩))
  go_ret
  exact ⟨rfl, rfl⟩
theorem no_touch (p : Value) (k now : Int) (w : World) (h : NoTab w p) : Calls Try.prog 11 #[p, .int .i64 k, .int .i64 now] w fun e w' => e = .returned (.tuple #[.int .i64 0, .bool false, .int .i64 1]) ∧ w = w' := by
  rcases h with rfl | ⟨T, rfl, h⟩
  · exact touch_nil k now w
  · exact touch_zero T k now w h
theorem no_all (p : Value) (w : World) (h : NoTab w p) : Calls Try.prog 20 #[p] w fun e w' => e = .returned (.slice none 0 0) ∧ w = w' := by
  rcases h with rfl | ⟨T, rfl, h⟩
  · exact all_nil w
  · exact all_zero T w h
theorem cell_blk {W : World} {g i : Nat} {cs : Array Value} {t : TypeId} {fr : Nat × Nat} {v : Value} (h : W.heap[g]? = some (.cells cs t fr)) (hv : cs[i]? = some v) : W.cell? ⟨g, i, none⟩ = some v := by
  simp [World.cell?, h, hv]
set_option maxRecDepth 100000 in
set_option maxHeartbeats 1000000 in
theorem none_law (k now : Int) (w : World) : Calls Try.prog 5 #[.int .i64 k, .int .i64 now] w fun e w' => e = .returned (.bool true) ∧ Below w.heap.size w w' := by
  go_enter Try.func5, Try.ntmps5
  go_wp2_with fail
  have c0 : ((w.alloc (Obj.cells #[Value.int IntKind.i64 0, Value.map none] 54)).alloc (Obj.cells #[Value.pointer none, Value.pointer (some { block := w.heap.size, off := 0 })] 24)).cell? ⟨w.heap.size + 1, 0, none⟩ = some (.pointer none) := cell_blk (by have := World.alloc_heap_new (w.alloc (Obj.cells #[Value.int IntKind.i64 0, Value.map none] 54)) (Obj.cells #[Value.pointer none, Value.pointer (some { block := w.heap.size, off := 0 })] 24); rwa [World.size_alloc] at this) rfl
  have c1 : ((w.alloc (Obj.cells #[Value.int IntKind.i64 0, Value.map none] 54)).alloc (Obj.cells #[Value.pointer none, Value.pointer (some { block := w.heap.size, off := 0 })] 24)).cell? ⟨w.heap.size + 1, 1, none⟩ = some (.pointer (some ⟨w.heap.size, 0, none⟩)) := cell_blk (by have := World.alloc_heap_new (w.alloc (Obj.cells #[Value.int IntKind.i64 0, Value.map none] 54)) (Obj.cells #[Value.pointer none, Value.pointer (some { block := w.heap.size, off := 0 })] 24); rwa [World.size_alloc] at this) rfl
  have c2 : ((w.alloc (Obj.cells #[Value.int IntKind.i64 0, Value.map none] 54)).alloc (Obj.cells #[Value.pointer none, Value.pointer (some { block := w.heap.size, off := 0 })] 24)).cell? ⟨w.heap.size, 0, none⟩ = some (.int .i64 0) := cell_blk ((((Below.refl _ _).alloc (Nat.le_refl _) _ : Below (w.alloc (Obj.cells #[Value.int IntKind.i64 0, Value.map none] 54)).heap.size (w.alloc (Obj.cells #[Value.int IntKind.i64 0, Value.map none] 54)) _).block w.heap.size (by simp)).trans (World.alloc_heap_new w _)) rfl
  have hB : Below w.heap.size w ((w.alloc (Obj.cells #[Value.int IntKind.i64 0, Value.map none] 54)).alloc (Obj.cells #[Value.pointer none, Value.pointer (some { block := w.heap.size, off := 0 })] 24)) := ((Below.refl _ _).alloc (Nat.le_refl _) _).alloc (by simp) _
  generalize ((w.alloc (Obj.cells #[Value.int IntKind.i64 0, Value.map none] 54)).alloc (Obj.cells #[Value.pointer none, Value.pointer (some { block := w.heap.size, off := 0 })] 24)) = w1 at *
  have N0 := Lib.hid (show NoTab w1 (.pointer none) from Or.inl rfl)
  have N1 := Lib.hid (show NoTab w1 (.pointer (some ⟨w.heap.size, 0, none⟩)) from Or.inr ⟨_, rfl, c2⟩)
  have HB := Lib.hid hB
  generalize w.heap.size + 1 = G at *
  generalize hWZ : w.heap.size = WZ at *
  clear hB c2
  go_loopg [7] 2 (fun kq v w' => w1 = w' ∧ ((kq = 2 ∧ v = .int .i64 0) ∨ (kq = 1 ∧ v = .int .i64 1) ∨ (kq = 0 ∧ v = .int .i64 2)))
  case atStart => exact ⟨rfl, Or.inl ⟨rfl, rfl⟩⟩
  case round =>
    obtain ⟨rfl, ⟨rfl, rfl⟩ | ⟨rfl, rfl⟩ | ⟨rfl, rfl⟩⟩ := hrel
    · go_wp2_with (first
        | (go_at_call 11; (with_reducible refine (no_touch _ _ _ _ N0.out).mono ?_); rintro e w' ⟨rfl, rfl⟩)
        | (go_at_call 17; (with_reducible refine (no_when _ _ _ N0.out).mono ?_); rintro e w' ⟨rfl, rfl⟩)
        | (go_at_call 12; (with_reducible refine (no_idle _ _ _ _ N0.out).mono ?_); rintro e w' ⟨rfl, rfl⟩)
        | (go_at_call 19; (with_reducible refine (no_has _ _ _ N0.out).mono ?_); rintro e w' ⟨rfl, rfl⟩)
        | (go_at_call 13; (with_reducible refine (no_len _ _ N0.out).mono ?_); rintro e w' ⟨rfl, rfl⟩)
        | (go_at_call 20; (with_reducible refine (no_all _ _ N0.out).mono ?_); rintro e w' ⟨rfl, rfl⟩))
      go_roundg 1
      case measure => omega
      case rel => exact ⟨rfl, Or.inr (Or.inl ⟨rfl, rfl⟩)⟩
    · go_wp2_with (first
        | (go_at_call 11; (with_reducible refine (no_touch _ _ _ _ N1.out).mono ?_); rintro e w' ⟨rfl, rfl⟩)
        | (go_at_call 17; (with_reducible refine (no_when _ _ _ N1.out).mono ?_); rintro e w' ⟨rfl, rfl⟩)
        | (go_at_call 12; (with_reducible refine (no_idle _ _ _ _ N1.out).mono ?_); rintro e w' ⟨rfl, rfl⟩)
        | (go_at_call 19; (with_reducible refine (no_has _ _ _ N1.out).mono ?_); rintro e w' ⟨rfl, rfl⟩)
        | (go_at_call 13; (with_reducible refine (no_len _ _ N1.out).mono ?_); rintro e w' ⟨rfl, rfl⟩)
        | (go_at_call 20; (with_reducible refine (no_all _ _ N1.out).mono ?_); rintro e w' ⟨rfl, rfl⟩))
      go_roundg 0
      case measure => omega
      case rel => exact ⟨rfl, Or.inr (Or.inr ⟨rfl, rfl⟩)⟩
    · go_wp2_with (first | (go_at_call 8; (with_reducible refine (awake _).mono ?_); rintro e w2 ⟨rfl, hb⟩))
      go_ret
      subst hWZ
      exact ⟨rfl, below_then HB.out HB.out.size hb⟩
end Go.Proofs.Ytafndajnncfpkaa.Tn
namespace Go.Proofs.Ytafndajnncfpkaa.PA
set_option linter.unusedVariables false
open Go Go.RowKit
theorem ostiarylaw20_TableNone.calls (k now : Int) (w : World) (hk : (Lit.int .i64 k).wf = true) (hn : (Lit.int .i64 now).wf = true) : Calls Try.prog 5 #[.int .i64 k, .int .i64 now] w fun e w' => e = .returned (.bool true) ∧ Below w.heap.size w w' := Tn.none_law k now w
end Go.Proofs.Ytafndajnncfpkaa.PA
