/- The table's list and the document's list say the same: plain laws. -/
import Derived.Test.YtafndajnncfpkaaSD
namespace Go.Proofs.Ytafndajnncfpkaa.Se
open Go Go.RowKit Go.Maps Go.Sort Go.Shelf Go.Proofs.YtafndajnncfpkaaW.PrintWords Go.Proofs.YtafndajnncfpkaaW.PrintLast Go.Proofs.YtafndajnncfpkaaW.PrintMore Go.Proofs.Ytafndajnncfpkaa.Mp Go.Proofs.Ytafndajnncfpkaa.Tm Go.Proofs.Ytafndajnncfpkaa.Tb Go.Proofs.Ytafndajnncfpkaa.Tc Go.Proofs.Ytafndajnncfpkaa.Ta Go.Proofs.Ytafndajnncfpkaa.Ti Go.Proofs.Ytafndajnncfpkaa.Tg Go.Proofs.Ytafndajnncfpkaa.Tt Go.Proofs.Ytafndajnncfpkaa.Ts Go.Proofs.Ytafndajnncfpkaa.Tz Go.Proofs.Ytafndajnncfpkaa.Tq Go.Proofs.Ytafndajnncfpkaa.Tv Go.Proofs.Ytafndajnncfpkaa.Tx Go.Proofs.Ytafndajnncfpkaa.Sa Go.Proofs.Ytafndajnncfpkaa.Sb Go.Proofs.Ytafndajnncfpkaa.Sc Go.Proofs.Ytafndajnncfpkaa.Sd
set_option linter.unusedVariables false
set_option linter.unusedSimpArgs false
theorem wf_perm {G L : List Cl} (h : G.Perm L) (hL : WfL L) : WfL G := by
  rw [wf_iff] at *
  have hm := h.map (·.1)
  exact ⟨hm.nodup_iff.2 hL.1, fun k hk => hL.2 k (hm.mem_iff.1 hk)⟩
theorem tabF_perm {G L : List Cl} (h : G.Perm L) (hL : WfL L) (k : Int) : tabF G k = tabF L k := by
  cases hx : tabF L k with
  | none =>
    rw [tabF_none] at hx ⊢
    exact fun hm => hx ((h.map (·.1)).mem_iff.1 hm)
  | some x =>
    have := tabF_some hx
    exact tabF_mem (wf_perm h hL) (h.mem_iff.2 this)
theorem idleOf_perm {G L : List Cl} (h : G.Perm L) (hL : WfL L) (k : Int) : idleOf G k = idleOf L k := by
  unfold idleOf
  rw [tabF_perm h hL]
theorem atOf_perm {G L : List Cl} (h : G.Perm L) (hL : WfL L) (k : Int) : atOf G k = atOf L k := by
  unfold atOf
  rw [tabF_perm h hL]
theorem goes_spec {L : List Cl} (hL : WfL L) : GoesP L (goesF L).1 (goesF L).2 := by
  unfold goesF
  cases hl : leastF (L.filter (·.2.2)) with
  | none =>
    have h1 := leastF_none _ hl
    refine Or.inl ⟨rfl, rfl, fun c hc => ?_⟩
    rw [idleOf_mem hL hc, Bool.eq_false_iff]
    intro hi
    have : c ∈ L.filter (·.2.2) := List.mem_filter.2 ⟨hc, hi⟩
    rw [h1] at this
    cases this
  | some m =>
    obtain ⟨hm, hmin⟩ := leastF_some _ _ hl
    obtain ⟨hm1, hm2⟩ := List.mem_filter.1 hm
    refine Or.inr ⟨rfl, List.mem_map.2 ⟨m, hm1, rfl⟩, by rw [idleOf_mem hL hm1]; exact hm2, fun c hc hci => ?_⟩
    rw [idleOf_mem hL hc] at hci
    have := hmin c (List.mem_filter.2 ⟨hc, hci⟩)
    rw [Bool.eq_false_iff, Ne, aheadB_iff] at this
    unfold Ahead
    show ¬ (atOf L c.1 < atOf L m.1 ∨ atOf L c.1 = atOf L m.1 ∧ c.1 < m.1)
    rw [atOf_mem hL hc, atOf_mem hL hm1]
    exact this
theorem goesF_perm {G L : List Cl} (h : G.Perm L) (hL : WfL L) : goesF G = goesF L := by
  refine goes_eq (wf_perm h hL) ?_
  rcases goes_spec hL with ⟨h1, h2, h3⟩ | ⟨h1, h2, h3, h4⟩
  · exact Or.inl ⟨h1, h2, fun c hc => by rw [idleOf_perm h hL]; exact h3 c (h.mem_iff.1 hc)⟩
  · refine Or.inr ⟨h1, (h.map (·.1)).mem_iff.2 h2, by rw [idleOf_perm h hL]; exact h3, fun c hc hi => ?_⟩
    rw [idleOf_perm h hL] at hi
    have := h4 c (h.mem_iff.1 hc) hi
    unfold Ahead at *
    rw [atOf_perm h hL, atOf_perm h hL]
    exact this
theorem touchV_perm {G L : List Cl} (h : G.Perm L) (hL : WfL L) (most k now : Int) : touchV most G k now = touchV most L k now := by
  unfold touchV
  rw [tabF_perm h hL, goesF_perm h hL, h.length_eq]
theorem touchS_perm {G L : List Cl} (h : G.Perm L) (hL : WfL L) (most k now : Int) : (touchS most G k now).Perm (touchS most L k now) := by
  unfold touchS
  rw [tabF_perm h hL, goesF_perm h hL, h.length_eq]
  split
  · exact h
  split
  · exact h.map _
  split
  · exact List.Perm.cons _ h
  split
  · exact List.Perm.cons _ (h.filter _)
  · exact h
theorem idleV_perm {G L : List Cl} (h : G.Perm L) (hL : WfL L) (k : Int) : idleV G k = idleV L k := by
  unfold idleV
  rw [tabF_perm h hL]
theorem idleS_perm {G L : List Cl} (h : G.Perm L) (hL : WfL L) (k : Int) (is : Bool) : (idleS G k is).Perm (idleS L k is) := by
  unfold idleS
  rw [tabF_perm h hL]
  split
  · exact h.map _
  · exact h
theorem srt_idleS {G : List Cl} (h : Srt G) (k : Int) (is : Bool) : Srt (idleS G k is) := by
  unfold idleS
  split
  · exact srt_of_keys h (keys_idleL G k is)
  · exact h
theorem all_same {G L : List Cl} (h : G.Perm L) (hs : Srt G) : sortL L = G.map (·.1) := by
  unfold sortL
  rw [← sort_eq (h.map (·.1))]
  refine List.mergeSort_of_pairwise ?_
  exact List.Pairwise.imp (fun hlt => by simpa using Int.le_of_lt hlt) hs
/-- What At tells of a client, by the table's list. -/
theorem at_there {G L : List Cl} (h : G.Perm L) (hL : WfL L) {k : Int} {i : Nat} (hi : i < G.length) (e : G[i].1 = k) : (tabF L k).isSome = true ∧ atOf L k = G[i].2.1 := by
  have hm := List.getElem_mem hi
  rw [← tabF_perm h hL, ← atOf_perm h hL, ← e, tabF_mem (wf_perm h hL) hm]
  exact ⟨rfl, atOf_mem (wf_perm h hL) hm⟩
theorem at_lacks {G L : List Cl} (h : G.Perm L) (hL : WfL L) {k : Int} (hn : ∀ c ∈ G, c.1 ≠ k) : (tabF L k).isSome = false ∧ atOf L k = 0 := by
  have : tabF L k = none := by
    rw [← tabF_perm h hL, tabF_none]
    intro hm
    obtain ⟨c, hc, e⟩ := List.mem_map.1 hm
    exact hn c hc e
  unfold atOf
  rw [this]
  exact ⟨rfl, rfl⟩
/-! What a method of the document's table leaves alone. -/
theorem Moved.row {W W1 : World} {R base : Nat} {most : Int} {G : List Cl} (h : Moved W W1 R base) (hr : RefAt W R base most G) : ∃ row, W.grownBy W1 (some row) ∧ base ≤ row ∧ ∃ cs t, W.heap[row]? = some (.cells cs t (0, 0)) ∧ (t = 44 ∨ t = 47) := by
  obtain ⟨row, hg, hb, hrow⟩ := h
  obtain ⟨A, c, hR, _, _⟩ := hr
  rcases hrow with rfl | ⟨cells, hc⟩
  · exact ⟨row, hg, hb, _, _, hR, Or.inl rfl⟩
  · exact ⟨row, hg, hb, _, _, hc, Or.inr rfl⟩
theorem st_moved {W W1 : World} {R base T b n : Nat} {most m2 : Int} {G L : List Cl} (h : Moved W W1 R base) (hr : RefAt W R base most G) (hs : St W T b n m2 L) : St W1 T b n m2 L := by
  obtain ⟨row, hg, _, cs, t, hc, ht⟩ := Moved.row h hr
  refine hs.kept hg ?_ ?_
  · intro e
    have e : T = row := by simpa using e
    have h1 := hs.tab.1
    rw [e, hc] at h1
    injection h1 with h1
    injection h1 with _ h2
    rcases ht with rfl | rfl <;> exact absurd h2 (by decide)
  · intro e
    have e : b = row := by simpa using e
    obtain ⟨es, c', hb⟩ := MapT.isMap hs.tab.2
    rw [e, hc] at hb
    cases hb
theorem x_moved {W W1 : World} {R base q : Nat} {most : Int} {G : List Cl} {x : Ac} (h : Moved W W1 R base) (hr : RefAt W R base most G) (hx : XAt W q x) : XAt W1 q x := by
  obtain ⟨row, hg, _, cs, t, hc, ht⟩ := Moved.row h hr
  refine hx.kept hg fun e => ?_
  have e : q = row := by simpa using e
  have h1 := hx
  rw [XAt, e, hc] at h1
  injection h1 with h1
  injection h1 with _ h2
  rcases ht with rfl | rfl <;> exact absurd h2 (by decide)
theorem below_moved {w W W1 : World} {R : Nat} {most : Int} {G : List Cl} (h : Moved W W1 R w.heap.size) (hB : Below w.heap.size w W) : Below w.heap.size w W1 := by
  obtain ⟨row, hg, hb, _⟩ := h
  exact below_row hB hg hb
end Go.Proofs.Ytafndajnncfpkaa.Se
