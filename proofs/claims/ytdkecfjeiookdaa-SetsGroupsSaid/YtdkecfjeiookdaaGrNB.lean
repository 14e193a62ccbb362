/- Contracts by hand: Labels. -/

import Derived.Test.YtdkecfjeiookdaaGrNL
namespace Go.Proofs.Ytdkecfjeiookdaa.PA
open Go.RowKit Go.Shelf Go.Proofs.YtdkecfjeiookdaaW.PrintWords Go.Proofs.YtdkecfjeiookdaaW.PrintLast Go.Proofs.YtdkecfjeiookdaaW.PrintMore Go.Proofs.Ytdkecfjeiookdaa.Iter
set_option linter.unusedVariables false
set_option linter.unusedSimpArgs false
attribute [local go_sem] Oper.semAt_some

theorem infoS : (Try.prog.info? 9).map (fun i => (i.zero, i.size, i.bytes)) = some (some (.string ⟨#[]⟩), 1, 16) := by kernel_rfl
theorem labs_length (s : ByteArray) : (labs s).length ≤ s.size + 1 := by
  induction hm : s.size using Nat.strongRecOn generalizing s with
  | _ m ih =>
    rw [labs]
    split
    · exact Nat.zero_le _
    · split
      · exact Nat.le_add_left _ _
      · rename_i h1 h2
        have hb := bt_range s 0
        have := ih (s.size - (1 + (bt s 0).toNat)) (by omega) (s.extract (1 + (bt s 0).toNat) s.size) (by rw [ByteArray.size_extract]; omega)
        simp only [List.length_cons]
        omega

def name_Labels.f (a0 : ByteArray) : Option (List ByteArray × Int) :=
  if a0.size ≤ 4398046511104 then (if (labs a0).all (·.2) = true then (if (a0.size : Int) > 255 then some ([], 3) else some ((labs a0).map (·.1), 0)) else some ([], 4)) else none

/-- What holds between two rounds of Labels' loop. -/
def LabI (w : World) (pre : List (ByteArray × Bool)) (W : World) : Prop :=
  Boxed W w.heap.size 30 (.slice none 0 0) ∧ Boxed W (w.heap.size + 1) 36 (.int .i64 0) ∧
  (∃ v, Boxed W (w.heap.size + 2) 30 v ∧ W.ownsRow (w.heap.size + 4) 9 1 v pre.length (pre.map fun x => Value.string x.1)) ∧ (∀ x ∈ pre, x.2 = true) ∧ Below w.heap.size w W
/-- Behind a label that is none. -/
def LabX (w : World) (c : Code) (pre : List (ByteArray × Bool)) (W : World) : Prop :=
  c = .ret ∧ Boxed W w.heap.size 30 (.slice none 0 0) ∧ Boxed W (w.heap.size + 1) 36 (.int .i64 4) ∧ (∃ x ∈ pre, x.2 = false) ∧ Below w.heap.size w W

theorem box_next {A B : World} {row : Option Nat} {b t : Nat} {v : Value} (h : Boxed A b t v) (hg : A.grownBy B row) (hne : ∀ r, row = some r → r ≠ b) : Boxed B b t v :=
  h.kept hg (fun e => hne b e.symm rfl)
theorem below_next {A B w : World} {row : Option Nat} (h : Below w.heap.size w A) (hg : A.grownBy B row) (hne : ∀ r, row = some r → w.heap.size ≤ r) : Below w.heap.size w B := h.grown hg h.size hne
theorem row_next {A B : World} {row : Option Nat} {base e n : Nat} {v : Value} {xs : List Value} (h : A.ownsRow base e 1 v n xs) (hg : A.grownBy B row) (hne : ∀ r, row = some r → r < base ∨ ∃ o, A.heap[r]? = some o ∧ o.isCells = false) : B.ownsRow base e 1 v n xs := by
  refine h.kept hg ?_
  rcases h.2 with ⟨rfl, _⟩ | ⟨g, cap, cur, rfl, hb, hgb, _⟩
  · exact .inl rfl
  · refine .inr fun e' => ?_
    have er : row = some g := by simpa [Value.ownBlock] using e'.symm
    rcases hne g er with h1 | ⟨o, ho, hc⟩
    · omega
    · rw [hgb] at ho; cases ho; cases hc
theorem LabI.step {w A B : World} {row : Option Nat} {pre : List (ByteArray × Bool)} (h : LabI w pre A) (hg : A.grownBy B row) (hr : ∀ r, row = some r → r = w.heap.size + 3 ∨ (w.heap.size + 4 ≤ r ∧ ∃ o, A.heap[r]? = some o ∧ o.isCells = false)) : LabI w pre B := by
  obtain ⟨c2, c3, ⟨v, c4, hrow⟩, ht, hB⟩ := h
  have hge : ∀ r, row = some r → w.heap.size + 3 ≤ r := fun r e => by rcases hr r e with h | ⟨h, _⟩ <;> omega
  refine ⟨box_next c2 hg (fun r e => by have := hge r e; omega), box_next c3 hg (fun r e => by have := hge r e; omega), ⟨v, box_next c4 hg (fun r e => by have := hge r e; omega), row_next hrow hg (fun r e => ?_)⟩, ht, below_next hB hg (fun r e => by have := hge r e; omega)⟩
  rcases hr r e with h | ⟨_, h⟩
  · exact .inl (by omega)
  · exact .inr h
theorem LabX.step {w A B : World} {row : Option Nat} {c : Code} {pre : List (ByteArray × Bool)} (h : LabX w c pre A) (hg : A.grownBy B row) (hr : ∀ r, row = some r → w.heap.size + 3 ≤ r) : LabX w c pre B := by
  obtain ⟨hc, c2, c3, ht, hB⟩ := h
  exact ⟨hc, box_next c2 hg (fun r e => by have := hr r e; omega), box_next c3 hg (fun r e => by have := hr r e; omega), ht, below_next hB hg (fun r e => by have := hr r e; omega)⟩
theorem LabI.own (w : World) {b : Nat} (hb : w.heap.size + 4 ≤ b) : OwnFrom b (LabI w) := fun pre A B row h hg hr => h.step hg (fun r e => .inr ⟨Nat.le_trans hb (hr r e).1, (hr r e).2⟩)
theorem LabI.box (w : World) : AbidesBox (w.heap.size + 3) (LabI w) := fun pre A B row h hg hr => h.step hg (fun r e => .inl (by rcases hr with h | h <;> rw [h] at e <;> cases e; rfl))
theorem LabX.own (w : World) {b : Nat} (hb : w.heap.size + 4 ≤ b) (c : Code) : OwnFrom b (LabX w c) := fun pre A B row h hg hr => h.step hg (fun r e => by have := (hr r e).1; omega)
theorem LabX.box (w : World) (c : Code) : AbidesBox (w.heap.size + 3) (LabX w c) := fun pre A B row h hg hr => h.step hg (fun r e => by rcases hr with h | h <;> rw [h] at e <;> cases e; omega)

theorem box_put {W : World} {b t D : Nat} {v : Value} {o : Obj} (h : Boxed W b t v) (hD : W.heap[D]? = some o) (ho : o.isCells = false) (o' : Obj) : Boxed (W.putObj D o') b t v :=
  h.kept (grownBy_putObj' W D o') (fun e => by cases e; rw [show W.heap[_]? = _ from h] at hD; cases hD; cases ho)
theorem below_put {w W : World} {D : Nat} (h : Below w.heap.size w W) (hD : w.heap.size ≤ D) (o' : Obj) : Below w.heap.size w (W.putObj D o') := h.grown (grownBy_putObj' W D o') h.size (fun k e => by cases e; exact hD)
theorem heap_set {W : World} {D : Nat} {o : Obj} (h : W.heap[D]? = some o) (ho : o.isCells = false) (a : Addr) (v : Value) : (W.setCell a v).heap[D]? = some o := (KeepsOthers.setCell W a v).same D o h ho
theorem labels_out {W : World} {b b' D : Nat} {v : Value} {n : Int} (tmps : Array Value) (h : Boxed W b 30 v) (h' : Boxed W b' 36 (.int .i64 n)) (hv : ∃ A m c, v = .slice A m c) (hD : W.heap[D]? = some (.deferred (some []))) (ht : tmps.getD 2 undef = .pointer (some ⟨b, 0, none⟩)) (ht' : tmps.getD 3 undef = .pointer (some ⟨b', 0, none⟩)) :
    (results Try.f99 tmps).run Try.prog (W.putObj D (.deferred none)) = .ok (.tuple #[v, .int .i64 n]) (W.putObj D (.deferred none)) := by
  obtain ⟨A, m, c, rfl⟩ := hv
  have c1 := (box_put h hD rfl (.deferred none)).cell
  have c2 := (box_put h' hD rfl (.deferred none)).cell
  have t1 : tmps[2]?.getD undef = .pointer (some ⟨b, 0, none⟩) := by simpa using ht
  have t2 : tmps[3]?.getD undef = .pointer (some ⟨b', 0, none⟩) := by simpa using ht'
  simp [results, Try.results99, t1, t2, asAddr, go_sem, c1, c2]

theorem string_row {W : World} {base base' e : Nat} {v : Value} {xs : List ByteArray} (h : W.ownsRow base e 1 v xs.length (encs Value.string xs)) (hb : base' ≤ base) : Kd.R Kd.string e W base' (fun _ => True) v xs :=
  ⟨fun _ _ => trivial, _, own_weaken h hb, Kd.reps_scalar xs⟩

/-- The round's append and store, in one. -/
theorem labels_round {w W w1 : World} {v v' : Value} {m : Nat} {xs ys : List Value} {tmp : Obj} (c2 : Boxed W w.heap.size 30 (.slice none 0 0)) (c3 : Boxed W (w.heap.size + 1) 36 (.int .i64 0)) (c4 : Boxed W (w.heap.size + 2) 30 v)
    (hrow : W.ownsRow (w.heap.size + 4) 9 1 v m xs) (hB : Below w.heap.size w W) (hWsz : w.heap.size + 4 ≤ W.heap.size) (hgrow : (W.alloc tmp).grownBy w1 v.ownBlock) {m' : Nat} (hown' : w1.ownsRow (w.heap.size + 4) 9 1 v' m' ys) :
    w1.cell? ⟨w.heap.size + 2, 0, none⟩ = some v ∧ w1.frozen? ⟨w.heap.size + 2, 0, none⟩ = false ∧ Hid (KeepsOthers W (w1.setCell ⟨w.heap.size + 1 + 1, 0, none⟩ v') ∧ KeepsBox (w.heap.size + 3) W (w1.setCell ⟨w.heap.size + 1 + 1, 0, none⟩ v') ∧
      Boxed (w1.setCell ⟨w.heap.size + 1 + 1, 0, none⟩ v') w.heap.size 30 (.slice none 0 0) ∧ Boxed (w1.setCell ⟨w.heap.size + 1 + 1, 0, none⟩ v') (w.heap.size + 1) 36 (.int .i64 0) ∧ Boxed (w1.setCell ⟨w.heap.size + 1 + 1, 0, none⟩ v') (w.heap.size + 2) 30 v' ∧
      (w1.setCell ⟨w.heap.size + 1 + 1, 0, none⟩ v').ownsRow (w.heap.size + 4) 9 1 v' m' ys ∧ Below w.heap.size w (w1.setCell ⟨w.heap.size + 1 + 1, 0, none⟩ v')) := by
  have hg : W.grownBy w1 v.ownBlock := World.grownBy.trans (World.grownBy_alloc W _ _) hgrow
  have hb : ∀ k, v.ownBlock = some k → w.heap.size + 4 ≤ k := own_base hrow
  have hne : ∀ b, b < w.heap.size + 4 → some b ≠ v.ownBlock := fun b hb' e => by have := hb b e.symm; omega
  have c4' := c4.kept hg (hne _ (by omega))
  refine ⟨c4'.cell, c4'.frozen, Lib.hid ⟨?_, ?_, ?_, ?_, c4'.set _, ?_, ?_⟩⟩
  · refine (KeepsOthers.of_grownBy hg fun j o ej hj => ?_).trans (KeepsOthers.setCell _ _ _)
    obtain ⟨cells, hc⟩ := own_typed hrow j ej
    rw [hc] at hj; cases hj; rfl
  · refine ⟨Nat.le_trans hg.size (KeepsWalks.setCell w1 _ v').size, (Below.heap_setCell w1 _ v' _ (by simp)).trans ?_⟩
    exact hg.block _ (by omega) (hne _ (by omega))
  · exact (c2.kept hg (hne _ (by omega))).other (by omega) _
  · exact (c3.kept hg (hne _ (by omega))).other (by omega) _
  · exact hown'.kept (grownBy_setCell' w1 _ v') (.inr (fun e => by have := own_base hown' _ e; omega))
  · exact (hB.grown hg hB.size (fun k e => by have := hb k e; omega)).setCell (p := ⟨w.heap.size + 1 + 1, 0, none⟩) (by simp; omega) _

set_option maxRecDepth 100000 in
set_option maxHeartbeats 2000000 in
theorem name_Labels.calls (a0 : ByteArray) (r1 : List ByteArray) (r2 : Int) (w : World) (h : name_Labels.f a0 = some (r1, r2)) :
    Calls Try.prog 99 #[.string a0] w fun e w' => ∃ v0_ : Value, e = .returned (.tuple #[v0_, .int .i64 r2]) ∧ Kd.R Kd.string 9 w' w.heap.size (fun _ => True) v0_ r1 ∧ Below w.heap.size w w' := by
  unfold name_Labels.f at h
  split at h
  case isFalse => cases h
  rename_i hs
  obtain ⟨i0, hi, hz0, hz1, hz2⟩ := info_parts infoS
  refine (callsIn_wide (n := 4)).1 ?_
  refine callsIn_of_wp_marks Try.func99 rfl trivial ?_ rfl
  simp only [Try.ntmps99, List.size_toArray, List.length_cons, List.length_nil, Nat.reduceAdd, Nat.reduceSub, Array.replicate_succ, Array.replicate_zero, List.push_toArray, List.append_toArray, List.nil_append, List.cons_append]
  have H := Lib.hid h
  clear h
  gi_wp2_with (refine ⟨trivial, ?_⟩; gi_at_call 123; refine (callsIn_wide.2 (name_all_calls a0 _)).mono ?_; rintro e w' ⟨rfl, rfl⟩)
  generalize hW0 : ((((w.alloc (Obj.cells #[Value.slice none 0 0] 30)).alloc (Obj.cells #[Value.int IntKind.i64 0] 36)).alloc (Obj.cells #[Value.slice none 0 0] 30)).alloc (Obj.cells #[Value.string a0] 9)) = W0
  have b2 : Boxed W0 w.heap.size 30 (.slice none 0 0) := by rw [← hW0]; exact (((Boxed.new w _ _).alloc _).alloc _).alloc _
  have b3 : Boxed W0 (w.heap.size + 1) 36 (.int .i64 0) := by
    rw [← hW0]; have := Boxed.new (w.alloc (Obj.cells #[Value.slice none 0 0] 30)) 36 (.int .i64 0); rw [World.size_alloc] at this; exact (this.alloc _).alloc _
  have b4 : Boxed W0 (w.heap.size + 2) 30 (.slice none 0 0) := by
    rw [← hW0]; have := Boxed.new ((w.alloc (Obj.cells #[Value.slice none 0 0] 30)).alloc (Obj.cells #[Value.int IntKind.i64 0] 36)) 30 (.slice none 0 0); rw [World.size_alloc, World.size_alloc] at this; exact this.alloc _
  have bg : Boxed W0 (w.heap.size + 3) 9 (.string a0) := by
    rw [← hW0]; have := Boxed.new (((w.alloc (Obj.cells #[Value.slice none 0 0] 30)).alloc (Obj.cells #[Value.int IntKind.i64 0] 36)).alloc (Obj.cells #[Value.slice none 0 0] 30)) 9 (.string a0); rw [World.size_alloc, World.size_alloc, World.size_alloc] at this; exact this
  have hsz : W0.heap.size = w.heap.size + 4 := by rw [← hW0]; simp
  have hB0 : Below w.heap.size w W0 := by rw [← hW0]; exact ((((Below.refl _ w).alloc (Nat.le_refl _) _).alloc (by simp) _).alloc (by simp; omega) _).alloc (by simp; omega) _
  have HW := Lib.hid hW0
  clear hW0
  refine wpIn_rangeFunc_box rfl (by decide) (gf := 140) (lb := #[.pointer (some ⟨w.heap.size + 3, 0, none⟩)]) rfl trivial (enters_of Try.func140 (by kernel_rfl) rfl)
    (g := w.heap.size + 3) (by omega) (name_all1_in 3 (by decide) (w.heap.size + 3) a0 (by omega) W0 bg) (fun _ => rfl)
    (LabI w) (LabX w) (LabI.own w (by omega)) (LabI.box w) (LabX.own w (by omega)) (LabX.box w) ⟨b2, b3, ⟨_, b4, own_nil _ _ _ _⟩, by simp, hB0⟩
    (fun x a' _ => a' = { tmps := #[.string a0, undef, .pointer (some ⟨w.heap.size, 0, none⟩), .pointer (some ⟨w.heap.size + 1, 0, none⟩), .pointer (some ⟨w.heap.size + 1 + 1, 0, none⟩), .string x.1, .bool x.2, .string a0, .func (.func 140) #[] #[.pointer (some ⟨w.heap.size + 1 + 1 + 1, 0, none⟩)], .string x.1, .bool x.2, undef, undef, undef, undef, undef, undef, undef, undef, undef, undef], defers := [] })
    (fun x a' s A B row h _ _ => h) ?assign ?body ?done ?stop
  case assign =>
    intro l pre x W K hi hK
    unfold encsL
    gi_wp2
    exact hK _ _ (KeepsFrom.refl _ _) (KeepsBox.refl _ _) hi rfl
  case body =>
    rintro l pre x a' W hl ⟨rl, hrl⟩ ⟨c2, c3, ⟨v, c4, hrow⟩, htrue, hB⟩ rfl hcan
    have hWsz : w.heap.size + 4 ≤ W.heap.size := by have := (Array.getElem?_eq_some_iff.1 hrl).1; omega
    obtain ⟨s, b⟩ := x
    have hlen : pre.length < a0.size + 1 := by
      have h1 := labs_length a0
      obtain ⟨q, hq⟩ := hcan
      rw [← hq] at h1
      simp at h1
      omega
    have d2 := c2.cell
    have f2 := c2.frozen
    have d3 := c3.cell
    have f3 := c3.frozen
    have d4 := c4.cell
    have f4 := c4.frozen
    dsimp only
    cases b with
    | false =>
      gi_wp2
      exact ⟨((KeepsOthers.setCell _ _ _).trans (KeepsOthers.setCell _ _ _)).from _, rfl, (c2.set _).other (by omega) _, (c3.other (by omega) _).set _, ⟨_, List.mem_append_right _ (List.mem_singleton_self _), rfl⟩,
        (hB.setCell (p := ⟨w.heap.size, 0, none⟩) (Nat.le_refl _) _).setCell (p := ⟨w.heap.size + 1, 0, none⟩) (by simp) _⟩
    | true =>
      gi_wp2_with (gi_at_builtin; refine wpListIn_append_own _ rfl _ _ 30 rfl (w.heap.size + 4) 9 i0 (.string ⟨#[]⟩) 1 16 Try.underlying30 hi hz0 hz1 hz2 rfl (by decide) _ _ _ rfl (hrow.alloc _) ⟨W.heap.size, 0, none⟩ 1 1 [.string s] rfl rfl (cell_one_new _ _ _) (by simp [Value.oneCell']) (by unfold maxLen; omega) (by omega) (by rw [World.size_alloc]; omega) ?_; intro v' w1 hown' hgrow _; obtain ⟨g', cap', rfl⟩ := ownsRow_succ hown'; obtain ⟨hc1, hf1, HR⟩ := labels_round c2 c3 c4 hrow hB hWsz hgrow hown')
      obtain ⟨k1, k2, k3, k4, k5, k6, k7⟩ := HR.out
      exact ⟨k1.from _, k2, k3, k4, ⟨_, k5, by simpa using k6⟩, fun x hx => by
        rcases List.mem_append.1 hx with h | h
        · exact htrue x h
        · rw [List.mem_singleton.1 h], k7⟩
  case done =>
    rintro D xs W hD rfl ⟨c2, c3, ⟨v, c4, hrow⟩, htrue, hB⟩ hK
    have hall : (labs a0).all (·.2) = true := List.all_eq_true.2 htrue
    obtain ⟨Av, cv, rfl⟩ := own_slice hrow
    have d2 := c2.cell
    have f2 := c2.frozen
    have d3 := c3.cell
    have f3 := c3.frozen
    have d4 := c4.cell
    have f4 := c4.frozen
    have h := H.out
    rw [if_pos hall] at h
    clear H
    by_cases hgt : (a0.size : Int) > 255
    · rw [if_pos hgt] at h
      cases h
      gi_wp2
      refine ⟨by simp, .inl ⟨_, _, rfl, run_takeDeferred (heap_set (heap_set hK rfl _ _) rfl _ _), ?_⟩⟩
      exact ⟨_, labels_out _ ((c2.set _).other (by omega) _) ((c3.other (by omega) _).set _) ⟨_, _, _, rfl⟩ (heap_set (heap_set hK rfl _ _) rfl _ _) rfl rfl, _, rfl, Kd.R_nil _ _ _ _ _,
        below_put ((hB.setCell (p := ⟨w.heap.size, 0, none⟩) (Nat.le_refl _) _).setCell (p := ⟨w.heap.size + 1, 0, none⟩) (by simp) _) (by omega) _⟩
    · rw [if_neg hgt] at h
      cases h
      have hl : ((labs a0).map fun x => Value.string x.1) = encs Value.string ((labs a0).map (·.1)) := by rw [encs, List.map_map]; rfl
      have hne : ∀ b, b < w.heap.size + 4 → some b ≠ (Value.slice Av (labs a0).length cv).ownBlock := fun b hb e => by have := own_base hrow b e.symm; omega
      have HO : (((W.setCell ⟨w.heap.size, 0, none⟩ (.slice Av (labs a0).length cv)).setCell ⟨w.heap.size + 1, 0, none⟩ (.int .i64 0)).putObj D (.deferred none)).ownsRow (w.heap.size + 4) 9 1 (.slice Av (labs a0).length cv) (labs a0).length ((labs a0).map fun x => Value.string x.1) :=
        ownsRow_putObj (own_setCell (p := ⟨w.heap.size + 1, 0, none⟩) (own_setCell (p := ⟨w.heap.size, 0, none⟩) hrow (hne w.heap.size (by omega)) _) (hne (w.heap.size + 1) (by omega)) _) _ (heap_set (heap_set hK rfl _ _) rfl _ _) rfl
      rw [hl] at HO
      have HO' := Lib.hid (string_row (base' := w.heap.size) (by rw [List.length_map]; exact HO) (by omega))
      clear HO hl hne
      gi_wp2
      refine ⟨by simp, .inl ⟨_, _, rfl, run_takeDeferred (heap_set (heap_set hK rfl _ _) rfl _ _), ?_⟩⟩
      exact ⟨_, labels_out _ ((c2.set _).other (by omega) _) ((c3.other (by omega) _).set _) ⟨_, _, _, rfl⟩ (heap_set (heap_set hK rfl _ _) rfl _ _) rfl rfl, _, rfl, HO'.out,
        below_put ((hB.setCell (p := ⟨w.heap.size, 0, none⟩) (Nat.le_refl _) _).setCell (p := ⟨w.heap.size + 1, 0, none⟩) (by simp) _) (by omega) _⟩
  case stop =>
    rintro D c pre W hD hpre ⟨rfl, c2, c3, hfalse, hB⟩ hK
    have hall : ¬ (labs a0).all (·.2) = true := fun h => by
      obtain ⟨x, hx, hf⟩ := hfalse
      have := List.all_eq_true.1 h x (hpre.subset hx)
      rw [hf] at this
      cases this
    gi_wp2
    refine ⟨by simp, .inl ⟨_, _, rfl, run_takeDeferred hK, ?_⟩⟩
    have h := H.out
    rw [if_neg hall] at h
    cases h
    exact ⟨_, labels_out _ c2 c3 ⟨_, _, _, rfl⟩ hK rfl rfl, _, rfl, Kd.R_nil _ _ _ _ _, below_put hB (by omega) _⟩
#print axioms name_Labels.calls
end Go.Proofs.Ytdkecfjeiookdaa.PA
