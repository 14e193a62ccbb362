/- Acts in memory; the plain law of TableGoes. -/
import Derived.Test.YtafndajnncfpkaaTU
import Derived.Test.YtafndajnncfpkaaTW
import Derived.Test.YtafndajnncfpkaaTV
namespace Go.Proofs.Ytafndajnncfpkaa.Tx
open Go Go.RowKit Go.Maps Go.Sort Go.Shelf Go.Proofs.YtafndajnncfpkaaW.PrintWords Go.Proofs.YtafndajnncfpkaaW.PrintLast Go.Proofs.YtafndajnncfpkaaW.PrintMore Go.Proofs.Ytafndajnncfpkaa.Mp Go.Proofs.Ytafndajnncfpkaa.Tm Go.Proofs.Ytafndajnncfpkaa.Tb Go.Proofs.Ytafndajnncfpkaa.Tc Go.Proofs.Ytafndajnncfpkaa.Ta Go.Proofs.Ytafndajnncfpkaa.Ti Go.Proofs.Ytafndajnncfpkaa.Tg Go.Proofs.Ytafndajnncfpkaa.Tt Go.Proofs.Ytafndajnncfpkaa.Ts Go.Proofs.Ytafndajnncfpkaa.Tz Go.Proofs.Ytafndajnncfpkaa.Tq Go.Proofs.Ytafndajnncfpkaa.Tv Go.Proofs.Ytafndajnncfpkaa.Tw
set_option linter.unusedVariables false
set_option linter.unusedSimpArgs false
/-- A call: its kind, client, time, and what it is to be. -/
abbrev Ac := Int × Int × Int × Bool
def wfA (x : Ac) : Prop := wfI x.1 ∧ wfI x.2.1 ∧ wfI x.2.2.1
/-- The slice at A holds these calls. -/
def ActsAt (w : World) (A : Option Addr) (l : List Ac) : Prop := ∀ j, (h : j < l.length) → ∃ ad, A = some ad ∧ w.cell? (ad.add (j * 4)) = some (.int .i64 l[j].1) ∧ w.cell? ⟨(ad.add (j * 4)).block, (ad.add (j * 4)).off + 1, none⟩ = some (.int .i64 l[j].2.1) ∧ w.cell? ⟨(ad.add (j * 4)).block, (ad.add (j * 4)).off + 2, none⟩ = some (.int .i64 l[j].2.2.1) ∧ w.cell? ⟨(ad.add (j * 4)).block, (ad.add (j * 4)).off + 3, none⟩ = some (.bool l[j].2.2.2)
theorem ActsAt.below {w w1 : World} {A : Option Addr} {l : List Ac} (h : ActsAt w A l) (hB : Below w.heap.size w w1) : ActsAt w1 A l := by
  intro j hj
  obtain ⟨ad, rfl, c0, c1, c2, c3⟩ := h j hj
  exact ⟨ad, rfl, (hB.cell (World.block_lt_of_cell? _ _ c0)).trans c0, (hB.cell (World.block_lt_of_cell? _ _ c1)).trans c1, (hB.cell (World.block_lt_of_cell? _ _ c2)).trans c2, (hB.cell (World.block_lt_of_cell? _ _ c3)).trans c3⟩
/-- The round's own copy of a call. -/
def XAt (w : World) (q : Nat) (x : Ac) : Prop := w.heap[q]? = some (.cells #[.int .i64 x.1, .int .i64 x.2.1, .int .i64 x.2.2.1, .bool x.2.2.2] 38 (0, 0))
theorem XAt.kept {w w1 : World} {q : Nat} {x : Ac} {row : Option Nat} (h : XAt w q x) (hg : w.grownBy w1 row) (hne : some q ≠ row) : XAt w1 q x := (hg.block q (Array.getElem?_eq_some_iff.1 h).1 hne).trans h
theorem XAt.below {w w1 : World} {q : Nat} {x : Ac} (h : XAt w q x) (hB : Below w.heap.size w w1) : XAt w1 q x := (hB.block q (Array.getElem?_eq_some_iff.1 h).1).trans h
theorem XAt.drewN {w : World} {q : Nat} {x : Ac} (h : XAt w q x) (n : Nat) : XAt (w.drewN n) q x := h
theorem XAt.drew {w : World} {q : Nat} {x : Ac} (h : XAt w q x) : XAt w.drew q x := h
theorem XAt.alloc {w : World} {q : Nat} {x : Ac} (h : XAt w q x) (o : Obj) : XAt (w.alloc o) q x := h.below ((Below.refl _ _).alloc (Nat.le_refl _) _)
theorem XAt.made (w : World) (x : Ac) : XAt (w.alloc (.cells #[.int .i64 x.1, .int .i64 x.2.1, .int .i64 x.2.2.1, .bool x.2.2.2] 38)) w.heap.size x := World.alloc_heap_new w _
theorem XAt.cells {w : World} {q : Nat} {x : Ac} (h : XAt w q x) : w.cell? ⟨q, 0, none⟩ = some (.int .i64 x.1) ∧ w.cell? ⟨q, 1, none⟩ = some (.int .i64 x.2.1) ∧ w.cell? ⟨q, 2, none⟩ = some (.int .i64 x.2.2.1) ∧ w.cell? ⟨q, 3, none⟩ = some (.bool x.2.2.2) := by
  refine ⟨?_, ?_, ?_, ?_⟩ <;> simp [World.cell?, (show w.heap[q]? = _ from h)]
theorem XAt.ne {w : World} {q T b n : Nat} {x : Ac} {most : Int} {L : List Cl} (h : XAt w q x) (hs : St w T b n most L) : q ≠ b := fun e => MapT.ne_cells hs.tab.2 (by have := h; rw [XAt, e] at this; exact this) rfl
theorem XAt.neM {w : World} {q m n : Nat} {x : Ac} {f : Int → Option Bool} (h : XAt w q x) (hs : BMap w m n f) : q ≠ m := fun e => MapT.ne_cells hs (by have := h; rw [XAt, e] at this; exact this) rfl

/-! The plain law. -/
theorem sortL_mem {L : List Cl} {k : Int} : k ∈ sortL L ↔ k ∈ L.map (·.1) := List.mem_mergeSort
theorem sortL_len (L : List Cl) : (sortL L).length = L.length := by rw [sortL, List.length_mergeSort, List.length_map]
theorem sortL_wf {L : List Cl} (h : WfL L) : ∀ k ∈ sortL L, wfI k := fun k hk => by
  obtain ⟨c, hc, rfl⟩ := List.mem_map.1 (sortL_mem.1 hk)
  exact h.2 c hc
theorem mem_isSome {L : List Cl} {k : Int} (h : k ∈ sortL L) : (tabF L k).isSome = true := (tabF_isSome L k).2 (sortL_mem.1 h)
theorem whens_at {L : List Cl} {k : Int} (h : k ∈ sortL L) : ((whensF L (sortL L) (sortL L).length k).getD 0) = atOf L k := by
  rw [whensF, List.take_length, if_pos h]
  rfl
theorem idleOf_none {L : List Cl} {k : Int} (h : (tabF L k).isSome = false) : idleOf L k = false := by
  unfold idleOf
  cases hx : tabF L k with
  | none => rfl
  | some x => rw [hx] at h; cases h
theorem idle_cases (L : List Cl) (k : Int) (is : Bool) : (idleV L k = 0 ∧ (tabF L k).isSome = true ∧ (tabF (idleS L k is) k).isSome = true ∧ ∀ j, idleOf (idleS L k is) j = if j = k then is else idleOf L j) ∨ (idleV L k = 6 ∧ (tabF L k).isSome = false ∧ idleS L k is = L) := by
  cases hx : tabF L k with
  | some x =>
    have hS : idleS L k is = idleL L k is := by rw [idleS, hx, if_pos (show (some x).isSome = true from rfl)]
    refine Or.inl ⟨by rw [idleV, hx]; rfl, rfl, by rw [hS, tabF_idle, if_pos rfl, hx]; rfl, fun j => ?_⟩
    rw [hS]
    unfold idleOf
    rw [tabF_idle]
    by_cases h : j = k
    · subst h
      rw [if_pos rfl, if_pos rfl, hx]
      rfl
    · rw [if_neg h, if_neg h]
  | none => exact Or.inr ⟨by rw [idleV, hx]; rfl, rfl, by rw [idleS, hx]; rfl⟩
/-- What Touch comes to. -/
structure There (L L' : List Cl) (k : Int) : Prop where
  had : (tabF L k).isSome = true
  now : (tabF L' k).isSome = true
  len : L'.length = L.length
  idle : ∀ j, idleOf L' j = idleOf L j
structure Room (L L' : List Cl) (k : Int) : Prop where
  had : (tabF L k).isSome = false
  now : (tabF L' k).isSome = true
  len : L'.length = L.length + 1
  idle : ∀ j, idleOf L' j = if j = k then false else idleOf L j
structure Goes (L L' : List Cl) (k out : Int) : Prop where
  had : (tabF L k).isSome = false
  now : (tabF L' k).isSome = true
  len : L'.length = L.length
  wf : wfI out
  mem : out ∈ sortL L
  was : idleOf L out = true
  off : (tabF L' out).isSome = false
  least : ∀ j ∈ sortL L, idleOf L j = true → ¬ atOf L j < atOf L out
  else_ : ∀ j ∈ sortL L, j ≠ out → (tabF L' j).isSome = true
  idle : ∀ j, idleOf L' j = if j = k then false else if j = out then false else idleOf L j
theorem isSome_touchL (L : List Cl) (k now j : Int) : (tabF (touchL L k now) j).isSome = (tabF L j).isSome := by
  rw [tabF_touch]
  split
  · rw [Option.isSome_map]
  · rfl
theorem idle_touchL (L : List Cl) (k now j : Int) : idleOf (touchL L k now) j = idleOf L j := by
  unfold idleOf
  rw [tabF_touch]
  by_cases h : j = k
  · rw [if_pos h]
    cases tabF L j <;> rfl
  · rw [if_neg h]
theorem touch_cases {most : Int} {L : List Cl} {k now : Int} (hL : WfL L) :
    (touchV most L k now = (0, false, 2) ∧ touchS most L k now = L) ∨ (touchV most L k now = (0, false, 8) ∧ touchS most L k now = L ∧ ¬ (L.length : Int) < most ∧ ∀ j, idleOf L j = false) ∨
    (touchV most L k now = (0, false, 0) ∧ There L (touchS most L k now) k) ∨ (touchV most L k now = (0, false, 0) ∧ Room L (touchS most L k now) k) ∨
    (∃ out, touchV most L k now = (out, true, 0) ∧ ¬ (L.length : Int) < most ∧ Goes L (touchS most L k now) k out) := by
  unfold touchV touchS
  split
  · exact Or.inl ⟨rfl, rfl⟩
  split
  · rename_i h
    exact Or.inr (Or.inr (Or.inl ⟨rfl, h, by rw [isSome_touchL]; exact h, by rw [touchL, List.length_map], idle_touchL L k now⟩))
  rename_i hk
  have hk0 : (tabF L k).isSome = false := by simpa using hk
  split
  · refine Or.inr (Or.inr (Or.inr (Or.inl ⟨rfl, hk0, by rw [tabF_cons, if_pos rfl]; rfl, rfl, fun j => ?_⟩)))
    unfold idleOf
    rw [tabF_cons]
    by_cases h : k = j
    · subst h
      rw [if_pos rfl, if_pos rfl]
    · rw [if_neg h, if_neg (fun e => h e.symm)]
  rename_i hr
  split
  · rename_i hg
    obtain ⟨c, hc, he, hi⟩ := goesF_mem hg
    have hne : k ≠ (goesF L).1 := by
      rintro rfl
      have := (tabF_isSome L (goesF L).1).2 (List.mem_map.2 ⟨c, hc, he⟩)
      rw [hk0] at this
      cases this
    refine Or.inr (Or.inr (Or.inr (Or.inr ⟨_, rfl, hr, hk0, ?_, ?_, ?_, ?_, ?_, ?_, ?_, ?_, fun j => ?_⟩)))
    · rw [fullL, tabF_cons, if_pos rfl]
      rfl
    · have := len_out hL hc
      rw [fullL, ← he]
      exact this
    · rw [← he]
      exact hL.2 c hc
    · exact sortL_mem.2 (List.mem_map.2 ⟨c, hc, he⟩)
    · rw [← he, idleOf_mem hL hc]
      exact hi
    · rw [fullL, tabF_cons, if_neg hne, tabF_del, if_pos rfl]
      rfl
    · intro j hj hji
      obtain ⟨d, hd, rfl⟩ := List.mem_map.1 (sortL_mem.1 hj)
      rw [idleOf_mem hL hd] at hji
      rw [atOf_mem hL hd]
      unfold goesF
      cases hl : leastF (L.filter (·.2.2)) with
      | none =>
        have := leastF_none _ hl
        have hm : d ∈ L.filter (·.2.2) := List.mem_filter.2 ⟨hd, hji⟩
        rw [this] at hm
        cases hm
      | some m =>
        obtain ⟨hm, hmin⟩ := leastF_some _ _ hl
        have := hmin d (List.mem_filter.2 ⟨hd, hji⟩)
        rw [Bool.eq_false_iff, Ne, aheadB_iff] at this
        show ¬ d.2.1 < atOf L m.1
        rw [atOf_mem hL (List.mem_filter.1 hm).1]
        omega
    · intro j hj hjo
      have := mem_isSome hj
      rw [fullL, tabF_cons]
      split
      · rfl
      · rw [tabF_del, if_neg hjo]
        exact this
    · unfold idleOf
      rw [fullL, tabF_cons]
      by_cases h : k = j
      · subst h
        rw [if_pos rfl, if_pos rfl]
      · rw [if_neg h, if_neg (fun e => h e.symm), tabF_del]
        by_cases h2 : j = (goesF L).1
        · rw [if_pos h2, if_pos h2]
        · rw [if_neg h2, if_neg h2]
  · rename_i hg
    refine Or.inr (Or.inl ⟨rfl, rfl, hr, fun j => ?_⟩)
    cases hx : tabF L j with
    | none => rw [idleOf, hx]
    | some x =>
      have hm := tabF_some hx
      have hi := idleOf_mem hL hm
      rw [show idleOf L j = x.2 from hi]
      cases hxi : x.2 with
      | false => rfl
      | true =>
        exfalso
        apply hg
        unfold goesF
        cases hl : leastF (L.filter (·.2.2)) with
        | some m => rfl
        | none =>
          have h1 := leastF_none _ hl
          have hm2 : (j, x) ∈ L.filter (·.2.2) := List.mem_filter.2 ⟨hm, hxi⟩
          rw [h1] at hm2
          cases hm2
/-- Pick, told outright. -/
def pickV (x n : Int) : Int := if x.tmod n < 0 then x.tmod n + n else x.tmod n
theorem pick_c (x n : Int) (w : World) (hx : wfI x) (h1 : 1 ≤ n) (h2 : n ≤ 1000) : Calls Try.prog 9 #[.int .i64 x, .int .i64 n] w fun e w' => e = .returned (.int .i64 (pickV x n)) ∧ w = w' := by
  have h0 : decide (n < 1) = false := decide_eq_false (by omega)
  have hz : (n == 0) = false := beq_eq_false_iff_ne.2 (by omega)
  go_enter Try.func9, Try.ntmps9
  go_wp2
  all_goals
    rename_i hq
    have b1 : x.tmod n < n := Int.tmod_lt_of_pos x (by omega)
    have b2 : -n < x.tmod n := by
      have := Int.lt_tmod_of_pos x (show 0 < n by omega)
      omega
    go_ret
    refine ⟨?_, rfl⟩
    unfold pickV
    first
      | (rw [if_pos (by omega)]; refine congrArg (fun z => Ending.returned (.int .i64 z)) ?_; unfold wrap64; omega)
      | (rw [if_neg (by omega)]; rfl)
end Go.Proofs.Ytafndajnncfpkaa.Tx
