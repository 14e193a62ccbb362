/- What a table does, in plain words; its calls by one contract each. -/
import Derived.Test.YtafndajnncfpkaaTT
namespace Go.Proofs.Ytafndajnncfpkaa.Ts
open Go Go.RowKit Go.Maps Go.Sort Go.Shelf Go.Proofs.Ytafndajnncfpkaa.Mp Go.Proofs.Ytafndajnncfpkaa.Tm Go.Proofs.Ytafndajnncfpkaa.Tb Go.Proofs.Ytafndajnncfpkaa.Tc Go.Proofs.Ytafndajnncfpkaa.Ta Go.Proofs.Ytafndajnncfpkaa.Ti Go.Proofs.Ytafndajnncfpkaa.Tg Go.Proofs.Ytafndajnncfpkaa.Tt
set_option linter.unusedVariables false
set_option linter.unusedSimpArgs false

def aheadB (x y : Cl) : Bool := decide (x.2.1 < y.2.1) || (decide (x.2.1 = y.2.1) && decide (x.1 < y.1))
theorem aheadB_iff (x y : Cl) : aheadB x y = true ↔ x.2.1 < y.2.1 ∨ x.2.1 = y.2.1 ∧ x.1 < y.1 := by
  simp [aheadB]
/-- The one that stands ahead of all. -/
def leastF : List Cl → Option Cl
  | [] => none
  | c :: l => match leastF l with
    | none => some c
    | some m => if aheadB m c then some m else some c
def goesF (L : List Cl) : Int × Bool := match leastF (L.filter (·.2.2)) with
  | none => (0, false)
  | some c => (c.1, true)
theorem leastF_none (l : List Cl) (h : leastF l = none) : l = [] := by
  cases l with
  | nil => rfl
  | cons c l =>
    rw [leastF] at h
    cases hl : leastF l with
    | none => rw [hl] at h; cases h
    | some m =>
      rw [hl] at h
      simp only at h
      split at h <;> cases h
theorem leastF_some (l : List Cl) (m : Cl) (h : leastF l = some m) : m ∈ l ∧ ∀ c ∈ l, aheadB c m = false := by
  induction l generalizing m with
  | nil => cases h
  | cons c l ih =>
    rw [leastF] at h
    cases hl : leastF l with
    | none =>
      rw [hl] at h
      obtain rfl := Option.some.inj h
      rw [leastF_none l hl]
      refine ⟨List.mem_cons_self, fun x hx => ?_⟩
      rw [List.mem_singleton.1 hx, Bool.eq_false_iff, Ne, aheadB_iff]
      omega
    | some m' =>
      rw [hl] at h
      simp only at h
      obtain ⟨h1, h2⟩ := ih m' hl
      by_cases hb : aheadB m' c = true
      · rw [if_pos hb] at h
        obtain rfl := Option.some.inj h
        refine ⟨List.mem_cons_of_mem _ h1, fun x hx => ?_⟩
        rcases List.mem_cons.1 hx with rfl | hx
        · have := (aheadB_iff _ _).1 hb
          rw [Bool.eq_false_iff, Ne, aheadB_iff]
          omega
        · exact h2 x hx
      · rw [if_neg hb] at h
        obtain rfl := Option.some.inj h
        refine ⟨List.mem_cons_self, fun x hx => ?_⟩
        rcases List.mem_cons.1 hx with rfl | hx
        · rw [Bool.eq_false_iff, Ne, aheadB_iff]
          omega
        · have h3 := h2 x hx
          rw [Bool.eq_false_iff, Ne, aheadB_iff] at h3 ⊢
          rw [aheadB_iff] at hb
          omega
theorem tabF_mem {L : List Cl} (hL : WfL L) {c : Cl} (hc : c ∈ L) : tabF L c.1 = some c.2 := by
  obtain ⟨hn, hw⟩ := hL
  clear hw
  induction L with
  | nil => cases hc
  | cons d L ih =>
    rw [tabF_cons]
    have hn' := List.nodup_cons.1 (by simpa using hn : (d.1 :: L.map (·.1)).Nodup)
    rcases List.mem_cons.1 hc with rfl | hc'
    · rw [if_pos rfl]
    · rw [if_neg (fun e => hn'.1 (by rw [e]; exact List.mem_map.2 ⟨c, hc', rfl⟩))]
      exact ih hc' hn'.2
theorem tabF_some {L : List Cl} {k : Int} {x : Int × Bool} (h : tabF L k = some x) : (k, x) ∈ L := by
  unfold tabF at h
  obtain ⟨c, hc, e⟩ := Option.map_eq_some_iff.1 h
  have h1 := List.mem_of_find?_eq_some hc
  have h2 : c.1 = k := by simpa using List.find?_some hc
  obtain ⟨a, d⟩ := c
  simp only at e h2
  rw [← e, ← h2]
  exact h1
theorem tabF_none {L : List Cl} {k : Int} : tabF L k = none ↔ k ∉ L.map (·.1) := by
  rw [← tabF_isSome]
  cases tabF L k <;> simp
theorem idleOf_mem {L : List Cl} (hL : WfL L) {c : Cl} (hc : c ∈ L) : idleOf L c.1 = c.2.2 := by
  rw [idleOf, tabF_mem hL hc]
theorem atOf_mem {L : List Cl} (hL : WfL L) {c : Cl} (hc : c ∈ L) : atOf L c.1 = c.2.1 := by
  rw [atOf, tabF_mem hL hc]
  rfl
theorem goes_eq {L : List Cl} (hL : WfL L) {out : Int} {gone : Bool} (h : GoesP L out gone) : goesF L = (out, gone) := by
  unfold goesF
  rcases h with ⟨rfl, rfl, h⟩ | ⟨rfl, h1, h2, h3⟩
  · have : L.filter (·.2.2) = [] := List.filter_eq_nil_iff.2 fun c hc => by
      have := h c hc
      rw [idleOf_mem hL hc] at this
      simpa using this
    rw [this]
    rfl
  · obtain ⟨c, hc, rfl⟩ := List.mem_map.1 h1
    rw [idleOf_mem hL hc] at h2
    have hcf : c ∈ L.filter (·.2.2) := List.mem_filter.2 ⟨hc, h2⟩
    cases hl : leastF (L.filter (·.2.2)) with
    | none =>
      rw [leastF_none _ hl] at hcf
      cases hcf
    | some m =>
      obtain ⟨hm, hmin⟩ := leastF_some _ _ hl
      obtain ⟨hm1, hm2⟩ := List.mem_filter.1 hm
      have a1 := h3 m hm1 (by rw [idleOf_mem hL hm1]; exact hm2)
      have a2 := hmin c hcf
      unfold Ahead at a1
      rw [atOf_mem hL hm1, atOf_mem hL hc] at a1
      rw [Bool.eq_false_iff, Ne, aheadB_iff] at a2
      have : m.1 = c.1 := by omega
      simp only [this]
/-- What Touch answers, and what the clients are behind it. -/
def badT (now : Int) : Bool := decide (now < 0) || decide (1099511627776 < now)
def touchV (most : Int) (L : List Cl) (k now : Int) : Int × Bool × Int :=
  if badT now = true then (0, false, 2) else if (tabF L k).isSome = true then (0, false, 0) else if (L.length : Int) < most then (0, false, 0) else if (goesF L).2 = true then ((goesF L).1, true, 0) else (0, false, 8)
def touchS (most : Int) (L : List Cl) (k now : Int) : List Cl :=
  if badT now = true then L else if (tabF L k).isSome = true then touchL L k now else if (L.length : Int) < most then (k, now, false) :: L else if (goesF L).2 = true then fullL L k now (goesF L).1 else L
def idleV (L : List Cl) (k : Int) : Int := if (tabF L k).isSome = true then 0 else 6
def idleS (L : List Cl) (k : Int) (is : Bool) : List Cl := if (tabF L k).isSome = true then idleL L k is else L
theorem keys_touchL (L : List Cl) (k now : Int) : (touchL L k now).map (·.1) = L.map (·.1) := by
  rw [touchL, List.map_map]
  refine List.map_congr_left fun c _ => ?_
  simp only [Function.comp]
  split <;> rfl
theorem keys_idleL (L : List Cl) (k : Int) (is : Bool) : (idleL L k is).map (·.1) = L.map (·.1) := by
  rw [idleL, List.map_map]
  refine List.map_congr_left fun c _ => ?_
  simp only [Function.comp]
  split <;> rfl
theorem wf_iff (L : List Cl) : WfL L ↔ (L.map (·.1)).Nodup ∧ ∀ k ∈ L.map (·.1), wfI k := by
  unfold WfL
  refine and_congr_right fun _ => ⟨fun h k hk => ?_, fun h c hc => h _ (List.mem_map.2 ⟨c, hc, rfl⟩)⟩
  obtain ⟨c, hc, rfl⟩ := List.mem_map.1 hk
  exact h c hc
theorem wf_cons {L : List Cl} (hL : WfL L) {k now : Int} {i : Bool} (hk : wfI k) (hx : tabF L k = none) : WfL ((k, now, i) :: L) := by
  rw [wf_iff] at *
  refine ⟨List.nodup_cons.2 ⟨tabF_none.1 hx, hL.1⟩, fun a ha => ?_⟩
  rcases List.mem_cons.1 ha with rfl | ha
  · exact hk
  · exact hL.2 a ha
theorem wf_filter {L : List Cl} (hL : WfL L) (p : Cl → Bool) : WfL (L.filter p) := by
  refine ⟨?_, fun c hc => hL.2 c (List.mem_filter.1 hc).1⟩
  exact List.Nodup.sublist (List.Sublist.map _ List.filter_sublist) hL.1
theorem len_out {L : List Cl} (hL : WfL L) {c : Cl} (hc : c ∈ L) : (L.filter fun d => decide (d.1 ≠ c.1)).length + 1 = L.length := by
  obtain ⟨hn, hw⟩ := hL
  clear hw
  induction L with
  | nil => cases hc
  | cons d L ih =>
    have hn' := List.nodup_cons.1 (by simpa using hn : (d.1 :: L.map (·.1)).Nodup)
    rcases List.mem_cons.1 hc with rfl | hc'
    · rw [List.filter_cons_of_neg (by simp)]
      have : L.filter (fun d => decide (d.1 ≠ c.1)) = L := List.filter_eq_self.2 fun d hd => by
        refine decide_eq_true fun e => hn'.1 ?_
        rw [← e]
        exact List.mem_map.2 ⟨d, hd, rfl⟩
      rw [this]
      rfl
    · have hne : d.1 ≠ c.1 := fun e => hn'.1 (by rw [e]; exact List.mem_map.2 ⟨c, hc', rfl⟩)
      rw [List.filter_cons_of_pos (by simpa using hne)]
      simp only [List.length_cons]
      rw [ih hc' hn'.2]
theorem goesF_mem {L : List Cl} (h : (goesF L).2 = true) : ∃ c ∈ L, c.1 = (goesF L).1 ∧ c.2.2 = true := by
  unfold goesF at *
  cases hl : leastF (L.filter (·.2.2)) with
  | none =>
    rw [hl] at h
    cases h
  | some m =>
    obtain ⟨hm, _⟩ := leastF_some _ _ hl
    obtain ⟨h1, h2⟩ := List.mem_filter.1 hm
    exact ⟨m, h1, rfl, h2⟩
theorem wf_touchS {most : Int} {L : List Cl} (hL : WfL L) {k now : Int} (hk : wfI k) (hl : (L.length : Int) ≤ most) : WfL (touchS most L k now) ∧ ((touchS most L k now).length : Int) ≤ most := by
  unfold touchS
  split
  · exact ⟨hL, hl⟩
  split
  · refine ⟨?_, ?_⟩
    · rw [wf_iff, keys_touchL, ← wf_iff]
      exact hL
    · rw [touchL, List.length_map]
      exact hl
  have hx : tabF L k = none := by
    cases h : tabF L k with
    | none => rfl
    | some x =>
      rename_i h1
      rw [h] at h1
      exact absurd rfl h1
  split
  · refine ⟨wf_cons hL hk hx, ?_⟩
    simp only [List.length_cons]
    omega
  split
  · rename_i hg
    obtain ⟨c, hc, e, _⟩ := goesF_mem hg
    have := len_out hL hc
    refine ⟨wf_cons (wf_filter hL _) hk ?_, ?_⟩
    · rw [tabF_del, hx]
      split <;> rfl
    · rw [fullL, ← e]
      simp only [List.length_cons]
      omega
  · exact ⟨hL, hl⟩
theorem wf_idleS {most : Int} {L : List Cl} (hL : WfL L) {k : Int} {is : Bool} (hl : (L.length : Int) ≤ most) : WfL (idleS L k is) ∧ ((idleS L k is).length : Int) ≤ most := by
  unfold idleS
  split
  · refine ⟨?_, ?_⟩
    · rw [wf_iff, keys_idleL, ← wf_iff]
      exact hL
    · rw [idleL, List.length_map]
      exact hl
  · exact ⟨hL, hl⟩
/-- A table as New made it, or as calls left it. -/
structure St (W : World) (T b n : Nat) (most : Int) (L : List Cl) : Prop where
  tab : TabAt W T b n most L
  wf : WfL L
  lo : 1 ≤ most
  hi : most ≤ 1024
  len : (L.length : Int) ≤ most
theorem St.kept {W W1 : World} {T b n : Nat} {most : Int} {L : List Cl} {row : Option Nat} (h : St W T b n most L) (hg : W.grownBy W1 row) (h1 : some T ≠ row) (h2 : some b ≠ row) : St W1 T b n most L := ⟨h.tab.kept hg h1 h2, h.wf, h.lo, h.hi, h.len⟩
theorem St.below {W W1 : World} {T b n : Nat} {most : Int} {L : List Cl} (h : St W T b n most L) (hB : Below W.heap.size W W1) : St W1 T b n most L := ⟨h.tab.below hB, h.wf, h.lo, h.hi, h.len⟩
theorem St.alloc {W : World} {T b n : Nat} {most : Int} {L : List Cl} (h : St W T b n most L) (o : Obj) : St (W.alloc o) T b n most L := ⟨h.tab.alloc o, h.wf, h.lo, h.hi, h.len⟩
theorem St.drewN {W : World} {T b n : Nat} {most : Int} {L : List Cl} (h : St W T b n most L) (m : Nat) : St (W.drewN m) T b n most L := ⟨h.tab.drewN m, h.wf, h.lo, h.hi, h.len⟩
theorem St.mono {W : World} {T b n n' : Nat} {most : Int} {L : List Cl} (h : St W T b n most L) (hn : n ≤ n') : St W T b n' most L := ⟨h.tab.mono hn, h.wf, h.lo, h.hi, h.len⟩
theorem St.ne0 {W : World} {T b n : Nat} {most : Int} {L : List Cl} (h : St W T b n most L) : most ≠ 0 := by have := h.lo; omega
theorem below_grownBy {W W1 : World} (h : Below W.heap.size W W1) (row : Option Nat) : W.grownBy W1 row := ⟨h.os, h.tape, h.output, h.size, fun i hi _ => h.block i hi⟩
theorem same_grownBy (W : World) (row : Option Nat) : W.grownBy W row := ⟨rfl, rfl, rfl, Nat.le_refl _, fun _ _ _ => rfl⟩
theorem touch_st {W : World} {T b n : Nat} {most : Int} {L : List Cl} (h : St W T b n most L) (k now : Int) (hk : wfI k) (hn : n < maxLen) : Calls Try.prog 11 #[.pointer (some ⟨T, 0, none⟩), .int .i64 k, .int .i64 now] W fun e w' => e = .returned (.tuple #[.int .i64 (touchV most L k now).1, .bool (touchV most L k now).2.1, .int .i64 (touchV most L k now).2.2]) ∧ St w' T b (n + 1) most (touchS most L k now) ∧ W.grownBy w' (some b) := by
  obtain ⟨w1, w2⟩ := wf_touchS (most := most) h.wf (k := k) (now := now) hk h.len
  have hlen : L.length ≤ 1024 := by have := h.len; have := h.hi; omega
  unfold touchV
  by_cases hb : badT now = true
  · rw [if_pos hb]
    have hS : touchS most L k now = L := by rw [touchS, if_pos hb]
    refine (touch_bad T b n most L k now W h.tab h.ne0 (by simpa [badT] using hb)).mono ?_
    rintro e w' ⟨rfl, rfl⟩
    rw [hS]
    exact ⟨rfl, h.mono (Nat.le_succ _), same_grownBy _ _⟩
  · rw [if_neg hb]
    have hb1 : 0 ≤ now ∧ now ≤ 1099511627776 := by
      simp [badT] at hb
      omega
    cases hx : tabF L k with
    | some x =>
      have hS : touchS most L k now = touchL L k now := by rw [touchS, if_neg hb, hx, if_pos (show (some x).isSome = true from rfl)]
      rw [if_pos (show (some x).isSome = true from rfl)]
      refine (touch_there T b n most L k now x W h.tab h.ne0 hk hb1.1 hb1.2 hx hn).mono ?_
      rintro e w' ⟨rfl, ht, hg⟩
      rw [hS] at w1 w2 ⊢
      exact ⟨rfl, ⟨ht, w1, h.lo, h.hi, w2⟩, hg⟩
    | none =>
      rw [if_neg (by simp)]
      by_cases hr : (L.length : Int) < most
      · have hS : touchS most L k now = (k, now, false) :: L := by rw [touchS, if_neg hb, hx, if_neg (by simp), if_pos hr]
        rw [if_pos hr]
        refine (touch_room T b n most L k now W h.tab h.wf h.ne0 hk hb1.1 hb1.2 hx hn hr).mono ?_
        rintro e w' ⟨rfl, ht, hg⟩
        rw [hS] at w1 w2 ⊢
        exact ⟨rfl, ⟨ht, w1, h.lo, h.hi, w2⟩, hg⟩
      · rw [if_neg hr]
        have hne : L ≠ [] := by
          rintro rfl
          have := h.lo
          exact hr (by show ((0 : Nat) : Int) < most; omega)
        refine (touch_full T b n most L k now W h.tab h.wf h.ne0 hk hb1.1 hb1.2 hx hn hr hlen hne).mono ?_
        rintro e w' ⟨out, gone, hG, hg, h0, h1⟩
        have he := goes_eq h.wf hG
        have hS : touchS most L k now = if (goesF L).2 = true then fullL L k now (goesF L).1 else L := by rw [touchS, if_neg hb, hx, if_neg (by simp), if_neg hr]
        rw [hS] at w1 w2 ⊢
        rw [he] at w1 w2 ⊢
        cases gone with
        | false =>
          obtain ⟨rfl, ht⟩ := h0 rfl
          exact ⟨rfl, ⟨ht.mono (Nat.le_succ _), w1, h.lo, h.hi, w2⟩, hg⟩
        | true =>
          obtain ⟨rfl, ht⟩ := h1 rfl
          exact ⟨rfl, ⟨ht, w1, h.lo, h.hi, w2⟩, hg⟩
theorem idle_st {W : World} {T b n : Nat} {most : Int} {L : List Cl} (h : St W T b n most L) (k : Int) (is : Bool) (hk : wfI k) (hn : n < maxLen) : Calls Try.prog 12 #[.pointer (some ⟨T, 0, none⟩), .int .i64 k, .bool is] W fun e w' => e = .returned (.int .i64 (idleV L k)) ∧ St w' T b (n + 1) most (idleS L k is) ∧ W.grownBy w' (some b) := by
  obtain ⟨w1, w2⟩ := wf_idleS (most := most) h.wf (k := k) (is := is) h.len
  unfold idleV
  cases hx : tabF L k with
  | some x =>
    have hS : idleS L k is = idleL L k is := by rw [idleS, hx, if_pos (show (some x).isSome = true from rfl)]
    rw [if_pos (show (some x).isSome = true from rfl)]
    refine (idle_there T b n most L k is x W h.tab h.ne0 hk hx hn).mono ?_
    rintro e w' ⟨rfl, ht, hg⟩
    rw [hS] at w1 w2 ⊢
    exact ⟨rfl, ⟨ht, w1, h.lo, h.hi, w2⟩, hg⟩
  | none =>
    have hS : idleS L k is = L := by rw [idleS, hx, if_neg (by simp)]
    rw [if_neg (by simp)]
    refine (idle_lacks T b n most L k is W h.tab h.ne0 hk hx).mono ?_
    rintro e w' ⟨rfl, hB⟩
    rw [hS]
    exact ⟨rfl, (h.below hB).mono (Nat.le_succ _), below_grownBy hB _⟩
theorem len_st {W : World} {T b n : Nat} {most : Int} {L : List Cl} (h : St W T b n most L) : Calls Try.prog 13 #[.pointer (some ⟨T, 0, none⟩)] W fun e w' => e = .returned (.int .i64 (L.length : Int)) ∧ W = w' := len_at T b n most L W h.tab h.wf h.ne0
theorem when_st {W : World} {T b n : Nat} {most : Int} {L : List Cl} (h : St W T b n most L) (k : Int) (hk : wfI k) : Calls Try.prog 17 #[.pointer (some ⟨T, 0, none⟩), .int .i64 k] W fun e w' => e = .returned (.tuple #[.int .i64 (atOf L k), .bool (tabF L k).isSome]) ∧ Below W.heap.size W w' := when_at T b n most L k W h.tab h.ne0 hk
theorem has_st {W : World} {T b n : Nat} {most : Int} {L : List Cl} (h : St W T b n most L) (k : Int) (hk : wfI k) : Calls Try.prog 19 #[.pointer (some ⟨T, 0, none⟩), .int .i64 k] W fun e w' => e = .returned (.bool (tabF L k).isSome) ∧ Below W.heap.size W w' := has_at T b n most L k W h.tab h.ne0 hk
theorem all_st {W : World} {T b n : Nat} {most : Int} {L : List Cl} (h : St W T b n most L) : Calls Try.prog 20 #[.pointer (some ⟨T, 0, none⟩)] W fun e w' => ∃ v : Value, e = .returned v ∧ w'.ownsRow W.heap.size 3 1 v L.length ((sortL L).map encZ) ∧ (v = .slice none 0 0 ↔ L = []) ∧ Below W.heap.size W w' := all_at T b n most L W h.tab h.wf h.ne0 (by have := h.len; have := h.hi; omega)
theorem new_st (most : Int) (w : World) (h1 : 1 ≤ most) (h2 : most ≤ 1024) : Calls Try.prog 10 #[.int .i64 most] w fun e w' => ∃ T b : Nat, e = .returned (.tuple #[.pointer (some ⟨T, 0, none⟩), .int .i64 0]) ∧ St w' T b 0 most [] ∧ w.heap.size ≤ T ∧ w.heap.size ≤ b ∧ Below w.heap.size w w' := by
  refine (new_ok most w h1 h2).mono ?_
  rintro e w' ⟨T, b, rfl, ht, hT, hb, hB⟩
  exact ⟨T, b, rfl, ⟨ht, ⟨List.nodup_nil, fun _ h => by cases h⟩, h1, h2, by show ((0 : Nat) : Int) ≤ most; omega⟩, hT, hb, hB⟩
end Go.Proofs.Ytafndajnncfpkaa.Ts
