/- Contracts by hand: slices.Clone, slices.Sort and slices.Equal of texts, as the printed walks read rows. -/
import Derived.Outline
import Derived.Sort.OwnSorted
import Derived.Test.YtdkecfjeiookdaaTeSL
import Derived.Test.YtdkecfjeiookdaaTePAx0
namespace Go.Proofs.Ytdkecfjeiookdaa.PA
open Go.RowKit Go.Maps Go.Sort Go.Proofs.YtdkecfjeiookdaaW.PrintWords Go.Proofs.YtdkecfjeiookdaaW.PrintLast Go.Proofs.YtdkecfjeiookdaaW.PrintMore
set_option linter.unusedVariables false
set_option linter.unusedSimpArgs false

theorem infoT : (Try.prog.info? 9).map (fun i => (i.zero, i.size, i.bytes)) = some (some (.string ⟨#[]⟩), 1, 16) := by kernel_rfl
def slices_Clone_string_string.f (l0 : List ByteArray) : Option (List ByteArray) := if l0.length * 16 ≤ 140737488355328 then some l0 else none
set_option maxHeartbeats 4000000 in
set_option maxRecDepth 100000 in
theorem slices_Clone_string_string.calls (A0 : Option Addr) (c0 : Nat) (l0 : List ByteArray) (r : List ByteArray) (w : World) (hr0 : Kd.C Kd.string w A0 l0.length l0) (hc0 : l0.length ≤ c0) (h : slices_Clone_string_string.f l0 = some r) :
    Calls Try.prog 69 #[.slice A0 l0.length c0] w fun e w' => ∃ v0_ : Value, e = .returned (v0_) ∧ Kd.R Kd.string 9 w' w.heap.size (fun _ => True) v0_ r ∧ Below w.heap.size w w' := by
  unfold slices_Clone_string_string.f at h
  split at h
  case isFalse => cases h
  rename_i hs
  obtain rfl := Option.some.inj h
  clear h
  have q22 : ∀ (w : World) (a : Option Addr) (n c n' c' : Nat), (binOp .eql 30 (.slice a n c) (.slice none n' c')).run Try.prog w = .ok (.bool a.isNone) w := fun w a n c n' c' => Lib.run_eql_slice_nil w _ _ a n c n' c' Try.underlying30
  have HR := Aside0.mk hr0
  have HS := Aside0.mk hs
  cases A0 with
  | none =>
    have h0 : l0 = [] := by
      rcases Nat.eq_zero_or_pos l0.length with h0 | h0
      · exact List.length_eq_zero_iff.1 h0
      · obtain ⟨ad, e, _⟩ := hr0.2.2 h0
        cases e
    subst h0
    go_enter Try.func69, Try.ntmps69
    go_wp2
    go_ret
    exact ⟨_, rfl, Kd.R_nil _ _ _ _ _, Below.refl _ _⟩
  | some ad =>
    clear hr0 hs
    go_enter Try.func69, Try.ntmps69
    go_wp2_with (first | ((with_reducible refine gate_dst (N := 5) rfl ?_); refine Kd.R_lit Kd.string (w0 := w) w.heap.size 9 rfl (N := 5) rfl (xs := ([] : List ByteArray)) (inner := []) (ok := fun _ => True) (okp := fun _ => True) ?hr ?hp (fun _ hk => hk) trivial (Below.refl _ _) (Nat.le_refl _) (by simp) ?_; (case hr => first | (go_simp; done) | (go_simp; rfl)); (case hp => exact (Reps.none _ _)); intro v1 w1 hR1 hB1 hg1 hat1; have HR1 := Aside0.mk hR1; have HB1 := Aside0.mk hB1; clear hR1 hB1 hg1 hat1) | (at_builtin; refine Kd.R_append_rows Kd.string (w0 := w) w.heap.size rfl (.tmp 5) (.tmp 6) 30 9 (.string ⟨#[]⟩) 16 rfl Try.underlying30 infoT rfl (by decide) (by omega) v1 [] l0 (some ad) _ _ (fun _ => True) (fun _ => False) rfl rfl HR1.out (Kd.C_below HR.out HB1.out) (fun _ _ h => h) (fun _ h => h.elim) (fun _ _ => trivial) HB1.out HB1.out.size (by simpa using HS.out) ?_; intro v2 w2 hR2 hB2 hg2 hat2; rw [List.nil_append] at hR2))
    go_ret
    exact ⟨_, rfl, hR2, hB2⟩

/-- A list of texts, sorted. -/
def sortT (xs : List ByteArray) : List ByteArray := ((xs.map fun x => x.data.toList).mergeSort fun x y => decide (x ≤ y)).map fun l => ⟨l.toArray⟩
theorem sortT_length (xs : List ByteArray) : (sortT xs).length = xs.length := by simp [sortT]
theorem sortT_enc (xs : List ByteArray) : (sortT xs).map Value.string = ((xs.map fun x => x.data.toList).mergeSort fun x y => decide (x ≤ y)).map encStr := by
  simp only [sortT, List.map_map]
  rfl
theorem slices_Sort_texts (base : Nat) (ok : Nat → Prop) (v : Value) (xs : List ByteArray) (w : World) (h : Kd.R Kd.string 9 w base ok v xs) (hl : xs.length < 4611686018427387904) :
    Calls Try.prog 70 #[v] w fun e w' => e = .returned (.tuple #[]) ∧ Kd.R Kd.string 9 w' base ok v (sortT xs) ∧ w.grownBy w' v.ownBlock := by
  have ho := Kd.own_of_R h
  have hok := h.1
  rcases ho.2 with ⟨rfl, h0⟩ | ⟨g, cap, cur, rfl, hg, hb, h1, h2, h3, h4⟩
  · have hx : xs = [] := List.length_eq_zero_iff.1 h0
    subst hx
    refine (Try.slices_Sort_string_none none 0 w).mono ?_
    rintro e w' ⟨rfl, rfl⟩
    exact ⟨rfl, by rw [show sortT [] = [] from by simp [sortT]]; exact h, World.grownBy.refl _ _⟩
  · have ht : cur.toList.take (xs.map fun x => x.data.toList).length = (xs.map fun x => x.data.toList).map encStr := by
      rw [List.length_map, List.map_map]
      rw [Nat.mul_one] at h4
      exact h4
    have key := Try.slices_Sort_string g 0 cap (xs.map fun x => x.data.toList) w (holds_of_block hb ht) (Array.getElem?_eq_some_iff.1 hb).1 (by simpa using hl)
    rw [List.length_map] at key
    refine key.mono ?_
    rintro e w' ⟨rfl, n, os, rfl⟩
    refine ⟨rfl, Kd.R_of_own (enc := Value.string) ?_ hok, grownBy_sorted _⟩
    have := ownsRow_sorted (n := n) (os := os) (ts := (xs.map fun x => x.data.toList).mergeSort fun x y => decide (x ≤ y)) (ss := xs.map fun x => x.data.toList) (by simp) hg hb (by simpa using h1) h2 h3
    rw [List.length_map, ← sortT_enc] at this
    rw [sortT_length]
    exact this
theorem slices_Equal_texts (base1 base2 : Nat) (ok1 ok2 : Nat → Prop) (v1 v2 : Value) (xs ys : List ByteArray) (w : World) (h1 : Kd.R Kd.string 9 w base1 ok1 v1 xs) (h2 : Kd.R Kd.string 9 w base2 ok2 v2 ys) :
    Calls Try.prog 71 #[v1, v2] w fun e w' => e = .returned (.bool (decide (xs = ys))) ∧ Drawn0 w w' := by
  obtain ⟨A1, c1, rfl, hc1, hC1⟩ := Kd.R_reads h1
  obtain ⟨A2, c2, rfl, hc2, hC2⟩ := Kd.R_reads h2
  have hb1 := hC1.2.1
  have hb2 := hC2.2.1
  by_cases hlen : xs.length = ys.length
  · rcases Nat.eq_zero_or_pos xs.length with h0 | h0
    · have hx : xs = [] := List.length_eq_zero_iff.1 h0
      have hy : ys = [] := List.length_eq_zero_iff.1 (hlen ▸ h0)
      subst hx
      subst hy
      refine (Try.slices_Equal_string_empty A1 A2 c1 0 c2 w (by omega)).mono ?_
      rintro e w' ⟨rfl, rfl⟩
      exact ⟨rfl, Drawn0.refl _⟩
    · obtain ⟨g1, d1, e1, _⟩ := Kd.R_form h1 h0
      obtain ⟨g2, d2, e2, _⟩ := Kd.R_form h2 (hlen ▸ h0)
      cases e1
      cases e2
      refine (Try.slices_Equal_string g1 0 xs.length c1 g2 0 ys.length c2 xs ys w (Nat.le_refl _) (Nat.le_refl _) hb1 hb2 (fun j hj => ?_) (fun j hj => ?_)).mono ?_
      · have := (Kd.R_cell ByteArray.empty h1 (j : Int) (by omega) (by omega)).1
        simpa [rdOf] using this
      · have := (Kd.R_cell ByteArray.empty h2 (j : Int) (by omega) (by omega)).1
        simpa [rdOf] using this
      · rintro e w' ⟨rfl, q, rfl⟩
        rw [List.take_length, List.take_length]
        exact ⟨rfl, ⟨q, rfl⟩⟩
  · refine (Try.slices_Equal_string_lens A1 A2 xs.length c1 ys.length c2 w hlen).mono ?_
    rintro e w' ⟨rfl, rfl⟩
    exact ⟨by rw [decide_eq_false (fun h => hlen (by rw [h]))], Drawn0.refl _⟩
end Go.Proofs.Ytdkecfjeiookdaa.PA
