/- Plain words on sets.Group: what its sets are, where each name may be. -/
import Derived.Lib.Strings
import Derived.Test.YtdkecfjeiookdaaOR
namespace Go.Proofs.Ytdkecfjeiookdaa.PA
open Go Go.RowKit Go.Proofs.YtdkecfjeiookdaaW.PrintWords Go.Proofs.YtdkecfjeiookdaaW.PrintLast
set_option linter.unusedVariables false

theorem mn_le (a b : Int) : mn a b ≤ a ∧ mn a b ≤ b ∧ (mn a b = a ∨ mn a b = b) := by
  unfold mn
  split <;> omega
theorem bytes_eq {a b : ByteArray} (h : a.toList = b.toList) : a = b := by
  rw [Go.Lib.toList_data, Go.Lib.toList_data] at h
  rw [← Go.Lib.mk_data a, ← Go.Lib.mk_data b, h]
theorem lastIx_some {ks : List KeyG} {k : KeyG} {j : Nat} (h : lastIx ks k = some j) : ks[j]? = some k := by
  unfold lastIx at h
  have := List.find?_some h
  exact of_decide_eq_true this
theorem lastIx_none {ks : List KeyG} {k : KeyG} (h : lastIx ks k = none) : k ∉ ks := by
  intro hk
  obtain ⟨i, hi, rfl⟩ := List.getElem_of_mem hk
  unfold lastIx at h
  have := List.find?_eq_none.1 h i (by rw [List.mem_reverse, List.mem_range]; exact hi)
  exact this (decide_eq_true (List.getElem?_eq_getElem hi))
/-- What one set says of the records so far. -/
def SetOf (l : List S39) (s : S32) : Prop :=
  okN s.f0 = true ∧ s.f4.Nodup ∧ (∀ d, d ∈ s.f4 ↔ ∃ r ∈ l, keyR r = keyS s ∧ r.f4 = d) ∧ (∃ r ∈ l, keyR r = keyS s ∧ r.f3 = s.f3) ∧ ∀ r ∈ l, keyR r = keyS s → s.f3 ≤ r.f3
def SetsOf (l : List S39) (out : List S32) : Prop := (out.map keyS).Nodup ∧ (∀ s ∈ out, SetOf l s) ∧ ∀ r ∈ l, ∃ s ∈ out, keyS s = keyR r
theorem setOf_other {l : List S39} {s : S32} (h : SetOf l s) {r : S39} (hr : keyR r ≠ keyS s) : SetOf (l ++ [r]) s := by
  obtain ⟨h1, h2, h3, ⟨q, hq, hq1, hq2⟩, h5⟩ := h
  refine ⟨h1, h2, fun d => (h3 d).trans ⟨?_, ?_⟩, ⟨q, List.mem_append_left _ hq, hq1, hq2⟩, fun q hq hk => ?_⟩
  · rintro ⟨q, hq, hk, hd⟩
    exact ⟨q, List.mem_append_left _ hq, hk, hd⟩
  · rintro ⟨q, hq, hk, hd⟩
    rcases List.mem_append.1 hq with hq | hq
    · exact ⟨q, hq, hk, hd⟩
    · rw [List.mem_singleton.1 hq] at hk; exact absurd hk hr
  · rcases List.mem_append.1 hq with hq | hq
    · exact h5 q hq hk
    · rw [List.mem_singleton.1 hq] at hk; exact absurd hk hr
theorem setOf_add {l : List S39} {s : S32} (h : SetOf l s) {r : S39} (hr : keyR r = keyS s) : SetOf (l ++ [r]) (addTo s r) := by
  obtain ⟨h1, h2, h3, ⟨q, hq, hq1, hq2⟩, h5⟩ := h
  have hany : s.f4.any (fun x => x.toList = r.f4.toList) = true ↔ r.f4 ∈ s.f4 := by
    rw [List.any_eq_true]
    constructor
    · rintro ⟨x, hx, he⟩
      rw [← bytes_eq (of_decide_eq_true he)]
      exact hx
    · intro hx
      exact ⟨_, hx, decide_eq_true rfl⟩
  have hm := mn_le s.f3 r.f3
  have hf4 : ∀ d, d ∈ (addTo s r).f4 ↔ d ∈ s.f4 ∨ d = r.f4 := by
    intro d
    unfold addTo
    dsimp only
    split
    · rename_i hh
      exact ⟨Or.inl, fun hh2 => hh2.elim id (fun e => by rw [e]; exact hany.1 hh)⟩
    · rw [List.mem_append, List.mem_singleton]
  refine ⟨h1, ?_, fun d => ?_, ?_, fun q hq hk => ?_⟩
  · unfold addTo
    dsimp only
    split
    · exact h2
    · rename_i hh
      rw [List.nodup_append]
      exact ⟨h2, by simp, fun a ha b hb => by rw [List.mem_singleton.1 hb]; exact fun e => hh (hany.2 (e ▸ ha))⟩
  · rw [hf4, h3, keyS_add]
    constructor
    · rintro (⟨q, hq, hk, hd⟩ | rfl)
      · exact ⟨q, List.mem_append_left _ hq, hk, hd⟩
      · exact ⟨r, by simp, hr, rfl⟩
    · rintro ⟨q, hq, hk, hd⟩
      rcases List.mem_append.1 hq with hq | hq
      · exact Or.inl ⟨q, hq, hk, hd⟩
      · rw [List.mem_singleton.1 hq] at hd; exact Or.inr hd.symm
  · rcases hm.2.2 with e | e
    · exact ⟨q, List.mem_append_left _ hq, hq1, hq2.trans e.symm⟩
    · exact ⟨r, by simp, hr, e.symm⟩
  · rw [keyS_add] at hk
    show mn s.f3 r.f3 ≤ q.f3
    rcases List.mem_append.1 hq with hq | hq
    · have := h5 q hq hk; omega
    · rw [List.mem_singleton.1 hq]; omega
theorem setOf_new {l : List S39} {r : S39} (ho : okN r.f0 = true) (hn : ∀ q ∈ l, keyR q ≠ keyR r) : SetOf (l ++ [r]) (newSet r) := by
  refine ⟨ho, by simp [newSet], fun d => ?_, ⟨r, by simp, rfl, rfl⟩, fun q hq hk => ?_⟩
  · constructor
    · intro hd
      exact ⟨r, by simp, rfl, (List.mem_singleton.1 hd).symm⟩
    · rintro ⟨q, hq, hk, hd⟩
      rcases List.mem_append.1 hq with hq | hq
      · exact absurd hk (hn q hq)
      · rw [List.mem_singleton.1 hq] at hd; rw [← hd]; simp [newSet]
  · rcases List.mem_append.1 hq with hq | hq
    · exact absurd hk (hn q hq)
    · rw [List.mem_singleton.1 hq]; exact Int.le_refl _
theorem setsOf_step {l : List S39} {out : List S32} (h : SetsOf l out) {r : S39} (ho : okN r.f0 = true) : SetsOf (l ++ [r]) (groupStep out r) := by
  obtain ⟨h1, h2, h3⟩ := h
  cases hl : lastIx (out.map keyS) (keyR r) with
  | none =>
    have hk := lastIx_none hl
    rw [groupStep_new _ _ (.inl hl)]
    have hn : ∀ q ∈ l, keyR q ≠ keyR r := fun q hq e => by
      obtain ⟨s, hs, hks⟩ := h3 q hq
      exact hk (List.mem_map.2 ⟨s, hs, hks.trans e⟩)
    refine ⟨?_, fun s hs => ?_, fun q hq => ?_⟩
    · rw [List.map_append, List.map_singleton, List.nodup_append]
      exact ⟨h1, by simp, fun a ha b hb => by rw [List.mem_singleton.1 hb]; exact fun e => hk (by rw [show keyR r = a from e.symm]; exact ha)⟩
    · rcases List.mem_append.1 hs with hs | hs
      · exact setOf_other (h2 s hs) (fun e => hk (List.mem_map.2 ⟨s, hs, e.symm⟩))
      · rw [List.mem_singleton.1 hs]; exact setOf_new ho hn
    · rcases List.mem_append.1 hq with hq | hq
      · obtain ⟨s, hs, hks⟩ := h3 q hq
        exact ⟨s, List.mem_append_left _ hs, hks⟩
      · rw [List.mem_singleton.1 hq]; exact ⟨newSet r, by simp, rfl⟩
  | some j =>
    have hj := lastIx_some hl
    rw [List.getElem?_map] at hj
    obtain ⟨s, hs, hks⟩ := Option.map_eq_some_iff.1 hj
    have hjl : j < out.length := (List.getElem?_eq_some_iff.1 hs).1
    have hsj : out.getD j z32 = s := by rw [List.getD_eq_getElem?_getD, hs]; rfl
    rw [groupStep_old _ _ _ hl (of_decide_eq_true ho), hsj]
    have hmap : (out.set j (addTo s r)).map keyS = out.map keyS := by
      rw [List.map_set, keyS_add]
      apply List.ext_getElem?
      intro i
      rw [List.getElem?_set]
      split
      · rename_i e; subst e; rw [List.getElem?_map, hs, if_pos (by simpa using hjl)]; rfl
      · rfl
    refine ⟨by rw [hmap]; exact h1, fun t ht => ?_, fun q hq => ?_⟩
    · obtain ⟨i, hi, rfl⟩ := List.getElem_of_mem ht
      rw [List.getElem_set]
      split
      · exact setOf_add (h2 s (List.mem_of_getElem? hs)) hks.symm
      · rename_i hne
        have hi' : i < out.length := by simpa using hi
        refine setOf_other (h2 _ (List.getElem_mem hi')) (fun e => hne ?_)
        have e2 : (out.map keyS)[j]'(by simpa using hjl) = (out.map keyS)[i]'(by simpa using hi') := by
          rw [List.getElem_map, List.getElem_map, ← e, ← hks]
          rw [List.getElem?_eq_getElem hjl] at hs
          rw [Option.some.inj hs]
        exact (List.getElem_inj h1).1 e2
    · have mem : ∀ κ, (∃ s ∈ out, keyS s = κ) → ∃ s' ∈ out.set j (addTo s r), keyS s' = κ := fun κ ⟨a, ha, hk⟩ => by
        have : κ ∈ (out.set j (addTo s r)).map keyS := by rw [hmap]; exact List.mem_map.2 ⟨a, ha, hk⟩
        obtain ⟨b, hb, hb2⟩ := List.mem_map.1 this
        exact ⟨b, hb, hb2⟩
      rcases List.mem_append.1 hq with hq | hq
      · exact mem _ (h3 q hq)
      · rw [List.mem_singleton.1 hq]; exact mem _ ⟨s, List.mem_of_getElem? hs, hks⟩
theorem setsOf_fold (l : List S39) : ∀ (pre : List S39) (out : List S32), SetsOf pre out → (∀ r ∈ l, okN r.f0 = true) → SetsOf (pre ++ l) (l.foldl groupStep out) := by
  induction l with
  | nil => intro pre out h _; simpa using h
  | cons r l ih =>
    intro pre out h hr
    have := ih (pre ++ [r]) (groupStep out r) (setsOf_step h (hr r (by simp))) (fun q hq => hr q (by simp [hq]))
    rwa [List.append_assoc, List.singleton_append] at this
theorem setsOf_group (l : List S39) (h : ∀ r ∈ l, okN r.f0 = true) : SetsOf l (groupTo l l.length) := by
  unfold groupTo
  rw [List.take_length]
  exact setsOf_fold l [] [] ⟨by simp, by simp, by simp⟩ h
end Go.Proofs.Ytdkecfjeiookdaa.PA
