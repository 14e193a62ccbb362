/- Contracts by hand: sets.Group. -/
import Derived.Outline
import Derived.Lib.Hide
import Derived.Deep.RegionLaw
import Derived.Test.YtdkecfjeiookdaaPbPAx0m
import Derived.Test.YtdkecfjeiookdaaPbITm
import Derived.Test.YtdkecfjeiookdaaPbPAx36
namespace Go.Proofs.Ytdkecfjeiookdaa.PA
open Go.RowKit Go.Maps Go.Proofs.YtdkecfjeiookdaaW.PrintWords Go.Proofs.YtdkecfjeiookdaaW.PrintLast Go.Proofs.YtdkecfjeiookdaaW.PrintMore Go.Proofs.Ytdkecfjeiookdaa.Mp
attribute [local go_sem] max2_int min2_int max_two min_two
set_option linter.unusedVariables false
set_option linter.unusedSimpArgs false

theorem laidOut : laidOutB Try.prog = true := by kernel_rfl
theorem keyedG : Keyed Try.prog 81 := Keyed.of_law (deep_law_gate laidOut (of_decide_eq_true (by kernel_rfl)) (of_decide_eq_true (by kernel_rfl)) (by kernel_rfl) (by kernel_rfl))
def encG (x : ByteArray × Int × Int) : Value := .agg #[.string x.1, .int .i64 x.2.1, .int .i64 x.2.2]
theorem encG_inj {x y : ByteArray × Int × Int} (h : encG x = encG y) : x = y := by
  obtain ⟨a, b, c⟩ := x
  obtain ⟨a', b', c'⟩ := y
  simp [encG] at h
  obtain ⟨rfl, rfl, rfl⟩ := h
  rfl
theorem keyG_some (x : ByteArray × Int × Int) (h1 : x.1.size ≤ maxLen) (h2 : (Lit.int .i64 x.2.1).wf = true) (h3 : (Lit.int .i64 x.2.2).wf = true) : (keyOf Try.prog 81 (encG x)).isSome = true := by
  obtain ⟨m, hm⟩ : ∃ m, Try.prog.types.size = m + 1 + 1 := ⟨Try.prog.types.size - 2, by kernel_rfl⟩
  have hkt : Try.prog.keyType 81 = true := by kernel_rfl
  have c0 : Try.prog.cellsOf 81 = 3 := by kernel_rfl
  have c1 : Try.prog.cellsOf 9 = 1 := by kernel_rfl
  have c2 : Try.prog.cellsOf 3 = 1 := by kernel_rfl
  unfold keyOf
  rw [Try.underlying81]
  simp only [encG, hkt, Value.formed, Try.underlying81, c0, List.size_toArray, List.length_cons, List.length_nil, Bool.true_and, beq_self_eq_true]
  rw [if_pos trivial, hm]
  simp only [Option.isSome_map, Value.cells]
  unfold Program.keyLits
  simp only [Try.underlying81]
  rw [if_pos ⟨by rw [c0]; rfl, by kernel_rfl⟩]
  simp [Program.keyLits, Try.underlying9, Try.underlying3, c1, c2, h1, h2, h3]
theorem zeroInt (w : World) : (zeroValue 3).run Try.prog w = .ok (.int .i64 0) w := by kernel_rfl

abbrev KeyG := ByteArray × Int × Int
def keyR (r : S39) : KeyG := (lowS r.f0, r.f1, r.f2)
def keyS (s : S32) : KeyG := (lowS s.f0, s.f1, s.f2)
/-- Where a key stands last. -/
def lastIx (ks : List KeyG) (k : KeyG) : Option Nat := (List.range ks.length).reverse.find? (fun i => decide (ks[i]? = some k))
def newSet (r : S39) : S32 := ⟨r.f0, r.f1, r.f2, r.f3, [r.f4]⟩
def addTo (s : S32) (r : S39) : S32 := ⟨s.f0, s.f1, s.f2, mn s.f3 r.f3, if s.f4.any (fun x => x.toList = r.f4.toList) then s.f4 else s.f4 ++ [r.f4]⟩
def groupStep (out : List S32) (r : S39) : List S32 := match lastIx (out.map keyS) (keyR r) with
  | some i => if name_Check.f r.f0 = some 0 then out.set i (addTo (out.getD i z32) r) else out ++ [newSet r]
  | none => out ++ [newSet r]
def groupTo (l : List S39) (k : Nat) : List S32 := (l.take k).foldl groupStep []
def okRecG (r : S39) : Prop := r.f0.size ≤ 4398046511104 ∧ (Lit.int .i64 r.f1).wf = true ∧ (Lit.int .i64 r.f2).wf = true
instance (r : S39) : Decidable (okRecG r) := by unfold okRecG; infer_instance
def sets_Group.f (l0 : List (S39)) : Option ((List (S32))) := if l0.length ≤ 1099511627776 ∧ (∀ r ∈ l0, okRecG r) then some (groupTo l0 l0.length) else none

def atG (out : List S32) (k : KeyG) : Option Int := Option.map (fun (i : Nat) => (i : Int)) (lastIx (out.map keyS) k)

theorem infoG32 : (Try.prog.info? 32).map (fun i => (i.zero, i.size, i.bytes)) = some (some (.agg #[.string ⟨#[]⟩, .int .i64 0, .int .i64 0, .int .i64 0, .slice none 0 0]), 5, 64) := by kernel_rfl
theorem find_congr' {α : Type} {p q : α → Bool} : ∀ {l : List α}, (∀ i, i ∈ l → p i = q i) → l.find? p = l.find? q
  | [], _ => rfl
  | x :: l, h => by
    rw [List.find?_cons, List.find?_cons, h x List.mem_cons_self, find_congr' (fun i hi => h i (List.mem_cons_of_mem _ hi))]
theorem lastIx_snoc (ks : List KeyG) (x k : KeyG) : lastIx (ks ++ [x]) k = if x = k then some ks.length else lastIx ks k := by
  unfold lastIx
  rw [List.length_append, List.length_singleton, List.range_succ, List.reverse_append, List.reverse_singleton, List.singleton_append, List.find?_cons]
  have h0 : (ks ++ [x])[ks.length]? = some x := by simp
  rw [h0]
  by_cases h : x = k
  · simp [h]
  · simp only [Option.some.injEq, h, decide_false, if_false]
    apply find_congr'
    intro i hi
    rw [List.mem_reverse, List.mem_range] at hi
    rw [List.getElem?_append_left hi]
theorem atG_snoc (out : List S32) (s : S32) (k : KeyG) : atG (out ++ [s]) k = if keyS s = k then some (out.length : Int) else atG out k := by
  unfold atG
  rw [List.map_append, List.map_singleton, lastIx_snoc]
  split <;> simp
theorem groupTo_succ (l : List S39) (k : Nat) (h : k < l.length) : groupTo l (k + 1) = groupStep (groupTo l k) (rd_T39 l (k : Int)) := by
  unfold groupTo
  rw [List.take_succ_eq_append_getElem h, List.foldl_append]
  simp [rd_T39, List.getD_eq_getElem?_getD, List.getElem?_eq_getElem h]
theorem one_text (W : World) (base : Nat) (d : ByteArray) (hb : base ≤ W.heap.size) : Kd.R Kd.string 9 (W.alloc (.cells #[.string d] 9)) base (fun k => k = W.heap.size) (.slice (some ⟨W.heap.size, 0, none⟩) 1 1) [d] :=
  ⟨fun k hk => by simpa [Value.ownBlock] using hk.symm, _, by have := World.ownsRow_lit (base := base) (e := 9) (size := 1) W #[.string d] 1 hb (by simp [maxLen]) rfl; exact this, Kd.reps_scalar [d]⟩
theorem S_map {α : Type} {d : Kd α} {e : Nat} {W W1 : World} {base : Nat} {ok : Nat → Prop} {v : Value} {xs : List α} (h : Kd.S d e W base ok v xs) {b : Nat} (hb : ∃ es c, W.heap[b]? = some (.map es c)) (hg : W.grownBy W1 (some b)) : Kd.S d e W1 base ok v xs :=
  Kd.S_mono (Kd.S_grown (Kd.S_bound h) hg (fun k hk he => by
    obtain ⟨es, c, hm⟩ := hb
    obtain ⟨_, _, _, q, _, cells, hc⟩ := hk
    cases he
    rw [hm] at hc
    cases hc)) (fun _ hk => hk.1)
theorem keyS_new (r : S39) : keyS (newSet r) = keyR r := rfl
theorem atG_new (out : List S32) (r : S39) : atG (out ++ [newSet r]) (keyR r) = some (out.length : Int) ∧ (∀ a', encG a' ≠ encG (keyR r) → atG (out ++ [newSet r]) a' = atG out a') ∧ (∀ a', encG a' = encG (keyR r) → atG (out ++ [newSet r]) a' = atG (out ++ [newSet r]) (keyR r)) :=
  ⟨by rw [atG_snoc, keyS_new, if_pos rfl], fun a' h => by rw [atG_snoc, keyS_new, if_neg (fun e => h (by rw [e]))], fun a' h => by rw [encG_inj h]⟩
theorem lowS_size (s : ByteArray) : (lowS s).size = s.size := by
  show (s.data.toList.map lowB).toArray.size = s.size
  rw [List.size_toArray, List.length_map, data_length]
theorem groupStep_length (out : List S32) (r : S39) : (groupStep out r).length ≤ out.length + 1 := by
  unfold groupStep
  split
  · split
    · rw [List.length_set]; omega
    · simp
  · simp
theorem foldl_length (l : List S39) : ∀ out : List S32, (l.foldl groupStep out).length ≤ out.length + l.length := by
  induction l with
  | nil => intro out; simp
  | cons r l ih =>
    intro out
    have h1 := ih (groupStep out r)
    have h2 := groupStep_length out r
    simp only [List.foldl_cons, List.length_cons]
    omega
theorem groupTo_length (l : List S39) (k : Nat) : (groupTo l k).length ≤ k := by
  have h := foldl_length (l.take k) []
  have h2 : (l.take k).length ≤ k := List.length_take_le _ _
  unfold groupTo
  simp only [List.length_nil] at h
  omega
theorem foldl_data (l : List S39) : ∀ (out : List S32) (n : Nat), (∀ s ∈ out, s.f4.length ≤ n) → ∀ s ∈ l.foldl groupStep out, s.f4.length ≤ n + l.length := by
  induction l with
  | nil => intro out n h; simpa using h
  | cons r l ih =>
    intro out n h
    have h1 := ih (groupStep out r) (n + 1) ?_
    · intro s hs
      have := h1 s hs
      simp only [List.length_cons]
      omega
    · have hnew : ∀ s ∈ out ++ [newSet r], s.f4.length ≤ n + 1 := by
        intro s hs
        rcases List.mem_append.1 hs with hs | hs
        · have := h s hs; omega
        · rw [List.mem_singleton.1 hs]; simp [newSet]
      unfold groupStep
      split
      · rename_i i hi
        split
        · intro s hs
          rcases List.mem_or_eq_of_mem_set hs with hs | rfl
          · have := h s hs; omega
          · have hg : ((out.getD i z32).f4).length ≤ n := by
              rw [List.getD_eq_getElem?_getD]
              cases he : out[i]? with
              | none => exact Nat.zero_le _
              | some s' => exact h s' (List.mem_of_getElem? he)
            unfold addTo
            dsimp only
            split
            · omega
            · rw [List.length_append, List.length_singleton]; omega
        · exact hnew
      · exact hnew
theorem groupTo_data (l : List S39) (k j : Nat) : ((groupTo l k).getD j z32).f4.length ≤ l.length := by
  have h := foldl_data (l.take k) [] 0 (by simp)
  have h2 : (l.take k).length ≤ l.length := List.length_take_le' _ _
  rw [List.getD_eq_getElem?_getD]
  cases he : (groupTo l k)[j]? with
  | none => exact Nat.zero_le _
  | some s' => have := h s' (List.mem_of_getElem? he); show s'.f4.length ≤ _; omega
theorem atG_none {out : List S32} {k : KeyG} (h : atG out k = none) : lastIx (out.map keyS) k = none := by
  unfold atG at h
  exact Option.map_eq_none_iff.1 h
theorem atG_some {out : List S32} {k : KeyG} {i : Int} (h : atG out k = some i) : ∃ j : Nat, i = (j : Int) ∧ j < out.length ∧ lastIx (out.map keyS) k = some j := by
  unfold atG at h
  obtain ⟨j, hj, rfl⟩ := Option.map_eq_some_iff.1 h
  refine ⟨j, rfl, ?_, hj⟩
  have := List.mem_of_find?_eq_some hj
  rw [List.mem_reverse, List.mem_range, List.length_map] at this
  exact this
theorem check_some (s : ByteArray) (h : s.size ≤ 4398046511104) : ∃ c, name_Check.f s = some c := by
  unfold name_Check.f name_Labels.f
  rw [if_pos h]
  split
  · split <;> exact ⟨_, rfl⟩
  · exact ⟨_, rfl⟩
theorem groupStep_old (out : List S32) (r : S39) (j : Nat) (h : lastIx (out.map keyS) (keyR r) = some j) (hc : name_Check.f r.f0 = some 0) : groupStep out r = out.set j (addTo (out.getD j z32) r) := by
  unfold groupStep
  rw [h]
  simp only
  rw [if_pos hc]
theorem keyS_add (s : S32) (r : S39) : keyS (addTo s r) = keyS s := rfl
theorem atG_old (out : List S32) (r : S39) (j : Nat) (hj : j < out.length) (k : KeyG) : atG (out.set j (addTo (out.getD j z32) r)) k = atG out k := by
  have hm : (out.set j (addTo (out.getD j z32) r)).map keyS = out.map keyS := by
    apply List.ext_getElem
    · simp
    · intro i h1 h2
      rw [List.getElem_map, List.getElem_map, List.getElem_set]
      split
      · rename_i e
        subst e
        rw [keyS_add, List.getD_eq_getElem?_getD, List.getElem?_eq_getElem hj]
        rfl
      · rfl
  unfold atG
  rw [hm]
/-- Whether a text stands in a list, as slices.Contains tells it. -/
theorem index_some (l : List ByteArray) (a : ByteArray) (d : Nat) : ∀ (k : Nat) (i : Nat), i ≤ l.length → l.length - i = d → d < k → l.length ≤ 1099511627776 → ∃ q : Int, slices_Index_string_string.l0 k l a (l.length : Int) (i : Int) = some q ∧ (0 ≤ q ↔ (l.drop i).any (fun x => x.toList = a.toList) = true) := by
  induction d with
  | zero =>
    intro k i h1 h2 h3 _
    obtain ⟨k, rfl⟩ : ∃ m, k = m + 1 := ⟨k - 1, by omega⟩
    refine ⟨-1, by simp only [slices_Index_string_string.l0]; rw [if_neg (by omega)], ?_⟩
    rw [List.drop_of_length_le (by omega)]
    simp
  | succ d ih =>
    intro k i h1 h2 h3 h4
    obtain ⟨k, rfl⟩ : ∃ m, k = m + 1 := ⟨k - 1, by omega⟩
    have hlt : i < l.length := by omega
    simp only [slices_Index_string_string.l0]
    rw [if_pos (by omega), if_pos (by omega), if_pos (by omega)]
    have hr : rdOf ByteArray.empty l (i : Int) = l[i] := by simp [rdOf, List.getD_eq_getElem?_getD, List.getElem?_eq_getElem hlt]
    rw [hr, List.drop_eq_getElem_cons hlt, List.any_cons]
    by_cases he : a.toList = l[i].toList
    · rw [if_pos he]
      exact ⟨_, rfl, by simp [he]⟩
    · rw [if_neg he, show wrap64 ((i : Int) + 1) = ((i + 1 : Nat) : Int) from by unfold wrap64; omega]
      obtain ⟨q, hq, hqq⟩ := ih k (i + 1) (by omega) (by omega) (by omega) h4
      refine ⟨q, hq, hqq.trans ?_⟩
      rw [show decide (l[i].toList = a.toList) = false from decide_eq_false (fun h => he h.symm), Bool.false_or]
theorem contains_some (l : List ByteArray) (a : ByteArray) (h : l.length ≤ 1099511627776) : ∃ k, slices_Contains_string_string.f k l a = some (l.any (fun x => x.toList = a.toList)) := by
  obtain ⟨q, hq, hqq⟩ := index_some l a l.length (l.length + 1) 0 (by omega) (by omega) (by omega) h
  refine ⟨l.length + 1, ?_⟩
  unfold slices_Contains_string_string.f slices_Index_string_string.f
  rw [show ((0 : Nat) : Int) = 0 from rfl] at hq
  rw [hq]
  simp only [Option.bind_some, ge_iff_le, List.drop_zero] at hqq ⊢
  rw [Option.some.injEq, Bool.eq_iff_iff, decide_eq_true_iff]
  exact hqq
theorem grown_drewN0 (w : World) (n : Nat) (row : Option Nat) : w.grownBy (w.drewN n) row := ⟨rfl, rfl, rfl, Nat.le_refl _, fun _ _ _ => rfl⟩
/-- A cell of the lent element is written. -/
theorem H_cell {W : World} {base g n cap j : Nat} {ok oki : Nat → Prop} {xs : List S32} {c : List Value} (hH : Kd.H k32 32 W base ok (.slice (some ⟨g, 0, none⟩) n cap) xs (j : Int) oki c) (h0 : (0 : Int) ≤ (j : Int)) (h1 : (j : Int) < (n : Int)) (q : Nat) (hq : q < 5) (hc : c.length = 5) (u : Value) (hu : u.oneCell' = true) :
    Kd.H k32 32 (W.setCell ⟨g, j * 5 + q, none⟩ u) base ok (.slice (some ⟨g, 0, none⟩) n cap) xs (j : Int) oki (c.set q u) ∧ W.grownBy (W.setCell ⟨g, j * 5 + q, none⟩ u) (some g) := by
  have h := Kd.H_seg hH h0 h1 (seg := [u]) (j := q) (by show q + 1 ≤ 5; omega) (fun x hx => by rw [List.mem_singleton.1 hx]; exact hu)
  rw [Int.toNat_natCast] at h
  have e : c.take q ++ [u] ++ c.drop (q + [u].length) = c.set q u := by
    rw [List.set_eq_take_append_cons_drop, if_pos (by omega), List.append_assoc]
    rfl
  rw [e] at h
  exact h
theorem H_cells {W : World} {base g n cap j : Nat} {ok oki : Nat → Prop} {xs : List S32} {c : List Value} (hH : Kd.H k32 32 W base ok (.slice (some ⟨g, 0, none⟩) n cap) xs (j : Int) oki c) (h0 : (0 : Int) ≤ (j : Int)) (h1 : (j : Int) < (n : Int)) :
    ∀ q u, c[q]? = some u → W.cell? ⟨g, j * 5 + q, none⟩ = some u := by
  obtain ⟨rows, _, _, _, _, hcc, _⟩ := Kd.H_raw hH h0 h1
  rw [Int.toNat_natCast] at hcc
  exact hcc
/-- What a new entry leaves. -/
theorem groupStep_new (out : List S32) (r : S39) (h : lastIx (out.map keyS) (keyR r) = none ∨ name_Check.f r.f0 ≠ some 0) : groupStep out r = out ++ [newSet r] := by
  unfold groupStep
  split
  · rename_i i hi
    rcases h with h | h
    · rw [h] at hi; cases hi
    · rw [if_neg h]
  · rfl

set_option maxHeartbeats 4000000 in
set_option maxRecDepth 100000 in
theorem sets_Group.calls (A0 : Option Addr) (c0 : Nat) (l0 : List (S39)) (r : List (S32)) (w : World) (hr0 : Kd.C k39 w A0 l0.length l0) (hc0 : l0.length ≤ c0) (h : sets_Group.f l0 = some r) :
    Calls Try.prog 17 #[.slice A0 l0.length c0] w fun e w' => ∃ v0_ : Value, e = .returned (v0_) ∧ Kd.S k32 32 w' w.heap.size (fun _ => True) v0_ r ∧ Below w.heap.size w w' := by
  unfold sets_Group.f at h
  split at h
  case isFalse => cases h
  rename_i hs
  obtain ⟨hlen, hok⟩ := hs
  obtain rfl := Option.some.inj h
  clear h
  have HR := Aside0.mk hr0
  have HOK := Aside0.mk hok
  clear hr0 hok
  have hmm := @run_makeMap Try.prog
  go_enter Try.func17, Try.ntmps17
  go_wp2
  go_loopw [3, 14] (fun v i wr => ∃ k : Nat, i = .int .i64 k ∧ k ≤ l0.length ∧ Hid (Kd.S k32 32 wr w.heap.size (fun _ => True) v (groupTo l0 k)) ∧ MapT Try.prog 81 encG (Value.int .i64) wr w.heap.size k (atG (groupTo l0 k)) ∧ Below w.heap.size w wr) (fun _ i _ => l0.length - (intOf i).toNat)
  case atStart => exact ⟨0, rfl, Nat.zero_le _, Lib.hid (Kd.S_nil _ _ _ _ _), MapT.made _ _ _ _ _, below_alloc (Below.refl _ _) _⟩
  case round =>
    obtain ⟨k, rfl, hk, HO, HM, HB⟩ := hrel
    by_cases hlt : k < l0.length
    · have hx := at_T39 HR.out (k : Int) (by omega) (by omega)
      obtain ⟨ad, rfl, x0, x1, x2, x3, x4⟩ := hx
      replace x0 := (HB.cell (World.block_lt_of_cell? w _ x0)).trans x0
      replace x1 := (HB.cell (World.block_lt_of_cell? w _ x1)).trans x1
      replace x2 := (HB.cell (World.block_lt_of_cell? w _ x2)).trans x2
      replace x3 := (HB.cell (World.block_lt_of_cell? w _ x3)).trans x3
      replace x4 := (HB.cell (World.block_lt_of_cell? w _ x4)).trans x4
      rw [Int.toNat_natCast] at x0 x1 x2 x3 x4
      generalize hxr : rd_T39 l0 (k : Int) = r at x0 x1 x2 x3 x4
      have hrok : Hid (okRecG r) := Lib.hid (HOK.out r (by rw [← hxr]; unfold rd_T39; rw [Int.toNat_natCast, List.getD_eq_getElem?_getD, List.getElem?_eq_getElem hlt]; exact List.getElem_mem _))
      have HX := Lib.hid hxr
      clear hxr
      go_upto_region 6 with fail
      have hO1 := Lib.hid (Kd.S_alloc HO.out (.cells #[.string r.f0, .int .i64 r.f1, .int .i64 r.f2, .int .i64 r.f3, .string r.f4] 39))
      have hM1 := HM.alloc (.cells #[.string r.f0, .int .i64 r.f1, .int .i64 r.f2, .int .i64 r.f3, .string r.f4] 39)
      have hB1 := below_alloc HB (.cells #[.string r.f0, .int .i64 r.f1, .int .i64 r.f2, .int .i64 r.f3, .string r.f4] 39)
      have hX1 := World.alloc_heap_new wr (.cells #[.string r.f0, .int .i64 r.f1, .int .i64 r.f2, .int .i64 r.f3, .string r.f4] 39)
      have hwX := HB.size
      clear HO HM HB x0 x1 x2 x3 x4
      generalize wr.heap.size = X at *
      generalize wr.alloc (.cells #[.string r.f0, .int .i64 r.f1, .int .i64 r.f2, .int .i64 r.f3, .string r.f4] 39) = W1 at *
      have y0 := blk_cell hX1 0
      have y1 := blk_cell hX1 1
      have y2 := blk_cell hX1 2
      simp only [List.getElem?_toArray, List.getElem?_cons_zero, List.getElem?_cons_succ] at y0 y1 y2
      have key := Lib.hid (show keyR r = (lowS r.f0, r.f1, r.f2) from rfl)
      go_cut [7] (fun v7 W2 => ∃ G : Nat, v7 = .pointer (some ⟨G, 0, none⟩) ∧ X < G ∧ W2.heap[G]? = some (.cells #[.string (lowS r.f0), .int .i64 r.f1, .int .i64 r.f2] 81 (0, 0)) ∧ Below W1.heap.size W1 W2)
      case first =>
        have hXlt : X < W1.heap.size := blk_lt hX1
        have ne0 := World.new_ne W1 _ y0
        have ne1 := World.new_ne W1 _ y1
        have ne2 := World.new_ne W1 _ y2
        go_region_held3 (fun w' => w'.cell? ⟨X, 0, none⟩ = some (.string r.f0) ∧ w'.cell? ⟨X, 1, none⟩ = some (.int .i64 r.f1) ∧ w'.cell? ⟨X, 2, none⟩ = some (.int .i64 r.f2))
          (first | exact ⟨z0, z1, z2⟩ | go_keep) ((go_at_call 63; refine (name_Lower.calls r.f0 (lowS r.f0) _ (by unfold name_Lower.f; rw [if_pos (by have := hrok.out.1; omega)])).mono ?_; rintro e w' ⟨rfl, hBl⟩; have z0 := pw_cell_below hBl (a := ⟨X, 0, none⟩) (v := .string r.f0) (by simp [*, World.cell?_alloc_some]); have z1 := pw_cell_below hBl (a := ⟨X, 1, none⟩) (v := .int .i64 r.f1) (by simp [*, World.cell?_alloc_some]); have z2 := pw_cell_below hBl (a := ⟨X, 2, none⟩) (v := .int .i64 r.f2) (by simp [*, World.cell?_alloc_some]); (try have bk := (hBl.block W1.heap.size (by simp)).trans (World.alloc_heap_new W1.drew _)); (try have q0 := blk_cell bk 0); (try have q1 := blk_cell bk 1); (try have q2 := blk_cell bk 2); (try have q3 := blk_frozen bk 0); (try have q4 := blk_frozen bk 1); (try have q5 := blk_frozen bk 2)))
        all_goals
          go_wp2_with fail
          go_meet
          first
          | exact ⟨w'.heap.size, rfl, Nat.lt_of_lt_of_le hXlt hBl.size, World.alloc_heap_new _ _, (show Below W1.heap.size W1 w' from below_then (below_drew (Below.refl W1.heap.size W1)) (Nat.le_refl _) hBl).alloc hBl.size _⟩
          | exact ⟨W1.heap.size, rfl, hXlt, blk_set (blk_set (blk_set bk 0 _) 1 _) 2 _, (((below_then ((below_drew (Below.refl W1.heap.size W1)).alloc (Nat.le_refl _) _) (by simp) hBl).setCell (p := ⟨W1.heap.size, 0, none⟩) (Nat.le_refl _) _).setCell (p := ⟨W1.heap.size, 1, none⟩) (Nat.le_refl _) _).setCell (p := ⟨W1.heap.size, 2, none⟩) (Nat.le_refl _) _⟩
      case rest =>
        obtain ⟨G, rfl, hXG, hG, hB2⟩ := hcut
        have g0 := blk_cell hG 0
        have g1 := blk_cell hG 1
        have g2 := blk_cell hG 2
        simp only [List.getElem?_toArray, List.getElem?_cons_zero, List.getElem?_cons_succ] at g0 g1 g2
        have hO2 := Lib.hid (Kd.S_below hO1.out hB2)
        have hM2 := hM1.below hB2
        have hBB := below_then hB1 hB1.size hB2
        have hX2 := (hB2.block X (blk_lt hX1)).trans hX1
        have e0 := blk_cell hX2 0
        have e1 := blk_cell hX2 1
        have e2 := blk_cell hX2 2
        have e3 := blk_cell hX2 3
        have e4 := blk_cell hX2 4
        simp only [List.getElem?_toArray, List.getElem?_cons_zero, List.getElem?_cons_succ] at e0 e1 e2 e3 e4
        clear hO1 hM1 hB1 hX1 hB2 y0 y1 y2
        obtain ⟨Av, cv, rfl⟩ := Kd.S_slice hO2.out
        have hkey : (keyOf Try.prog 81 (encG (keyR r))).isSome = true := keyG_some _ (by have := hrok.out.1; show (lowS r.f0).size ≤ _; rw [lowS_size]; unfold maxLen; omega) hrok.out.2.1 hrok.out.2.2
        have HK := Lib.hid hkey
        clear hkey
        cases hf : atG (groupTo l0 k) (keyR r) with
        | none =>
          have HF := Lib.hid hf
          clear hf
          go_wp2_with (first | (at_lookup; refine wpList_look _ rfl _ _ 78 rfl hM2 keyedG Try.underlying78 (zeroInt _) rfl (keyR r) rfl HK.out ?_; rw [HF.out]) | (at_mapUpdate; refine wpList_store _ rfl _ _ _ 78 rfl hM2 keyedG Try.underlying78 (by unfold maxLen; omega) rfl (keyR r) rfl HK.out ((groupTo l0 k).length : Int) rfl (atG (groupTo l0 k ++ [newSet r])) (atG_new _ _).1 (atG_new _ _).2.1 (atG_new _ _).2.2 ?_; intro W3 hM3 hT3; have hX3 := blk_grown hX2 hT3.grown (fun e => hM2.ne_cells hX2 (by cases e; rfl)); have e0 := blk_cell hX3 0; have e1 := blk_cell hX3 1; have e2 := blk_cell hX3 2; have e3 := blk_cell hX3 3; have e4 := blk_cell hX3 4; simp only [List.getElem?_toArray, List.getElem?_cons_zero, List.getElem?_cons_succ] at e0 e1 e2 e3 e4; have hO3 := Lib.hid (S_map hO2.out hM2.isMap hT3.grown); have hB3 := hBB.grown hT3.grown hBB.size (fun k e => by cases e; exact Nat.le_refl _); clear hO2 hM2 hX2 hBB) | ((with_reducible refine gate_dst (N := 55) rfl ?_); refine Kd.R_lit Kd.string (w0 := w) w.heap.size 9 rfl (N := 55) rfl (xs := [r.f4]) (inner := [.string r.f4]) (ok := fun k => W3.heap.size ≤ k) (okp := fun _ => False) ?hr ?hp (fun _ hk => hk.elim) (Nat.le_refl _) hB3 hB3.size (by simp) ?_; (case hr => first | (go_simp; done) | (go_simp; rfl)); (case hp => exact Kd.reps_scalar [r.f4]); intro v5 W5 hR5 hB5 hg5 hat5; obtain ⟨A5, c5, rfl⟩ := Kd.R_slice hR5; have hO5 := Lib.hid (Kd.S_grown (Kd.S_mono (Kd.S_bound hO3.out) (ok' := fun k => True ∧ ¬ W3.heap.size ≤ k) (fun k hk => ⟨trivial, by have := hk.2.2.1; omega⟩)) hg5 (fun _ _ => by simp)); have hM5 := hM3.kept hg5 (by simp); have hX5 := Lib.hid (blk_grown hX3 hg5 (by simp)); have hlt3 := Lib.hid (Kd.S_lt hO3.out); clear hO3 hM3 hX3 e0 e1 e2 e3 e4) | (at_builtin; refine Kd.S_append k32 (w0 := w) w.heap.size rfl (.tmp 44) (.tmp 57) 25 32 (.agg #[.string ⟨#[]⟩, .int .i64 0, .int .i64 0, .int .i64 0, .slice none 0 0]) 64 rfl Try.underlying25 infoG32 rfl (by decide) (by omega) (.slice Av (groupTo l0 k).length cv) (groupTo l0 k) (newSet r) [.string r.f0, .int .i64 r.f1, .int .i64 r.f2, .int .i64 r.f3, .slice A5 1 c5] (fun _ => True) (fun k => W3.heap.size ≤ k) rfl rfl ?aP ?aK ?aF ?aO ?aB ?aS ?aL ?_; (case aP => exact k32_mkM _ _ _ (newSet r) hR5); (case aK => exact fun k hk => ⟨trivial, fun e => by have := hlt3.out k e.symm; omega⟩); (case aF => exact fun _ _ => trivial); (case aO => exact hO5.out); (case aB => exact hB5); (case aS => exact hB5.size); (case aL => have := groupTo_length l0 k; omega); intro v4 W4 hO4 hB4 hg4 hat4))
          go_roundw
          case rel => exact ⟨k + 1, by go_num, by omega, Lib.hid (by rw [groupTo_succ l0 k hlt, HX.out, groupStep_new _ _ (.inl (atG_none HF.out))]; exact hO4), by
            rw [groupTo_succ l0 k hlt, HX.out, groupStep_new _ _ (.inl (atG_none HF.out))]
            exact hM5.kept hg4 (fun e => by obtain ⟨cells, hc⟩ := Kd.S_typed hO5.out _ e.symm; exact hM5.ne_cells hc rfl), hB4⟩
          case measure => simp [intOf]; omega
        | some i =>
          obtain ⟨j, rfl, hjl, hj⟩ := atG_some hf
          obtain ⟨g, cap, hv, hgb, hgl, cells, hgc⟩ := Kd.S_form hO2.out (by omega)
          cases hv
          have HF := Lib.hid hf
          have HJ := Lib.hid hj
          clear hf hj
          obtain ⟨c, hc⟩ := check_some r.f0 hrok.out.1
          by_cases hc0 : c = 0
          · subst hc0
            have HC := Lib.hid hc
            clear hc
            have hj0 : (0 : Int) ≤ (j : Int) := Int.natCast_nonneg _
            have hj1 : (j : Int) < ((groupTo l0 k).length : Int) := by omega
            go_upto_region 12 with (first | (at_lookup; refine wpList_look _ rfl _ _ 78 rfl hM2 keyedG Try.underlying78 (zeroInt _) rfl (keyR r) rfl HK.out ?_; rw [HF.out]) | (go_at_call 64; refine (name_Check.calls r.f0 0 _ HC.out).mono ?_; rintro e W3 ⟨rfl, hBc⟩; have hO3 := Lib.hid (Kd.S_below hO2.out hBc); have hM3 := hM2.below hBc; have hX3 := (hBc.block X (blk_lt hX2)).trans hX2; have hB3 := below_then hBB hBB.size hBc; clear hO2 hM2 hX2 hBB e0 e1 e2 e3 e4))
            obtain ⟨oki, cs, hcl, hKM, hcc, hfr, hoki, hH⟩ := Kd.S_elem hO3.out z32 (j : Int) hj0 hj1
            obtain ⟨v4, rfl, hR4⟩ := k32_openM hKM
            obtain ⟨A4, c4, rfl⟩ := Kd.R_slice hR4
            rw [Int.toNat_natCast] at hKM hR4 hcc
            rw [Int.toNat_natCast] at hcl
            rw [Int.toNat_natCast] at hH
            generalize hs : (groupTo l0 k).getD j z32 = s at hKM hR4 hcc hcl hH
            have HS := Lib.hid hs
            have d3 : W3.cell? ⟨g, j * 5 + 3, none⟩ = some (.int .i64 s.f3) := hcc 3 _ rfl
            have f3 : W3.frozen? ⟨g, j * 5 + 3, none⟩ = false := hfr 3
            have hg3 : g ≠ w.heap.size := fun e => hM3.ne_cells (show W3.heap[g]? = some (.cells _ 32 (0, 0)) from (hBc.block g hgl).trans hgc) e.symm
            have hgX : g ≠ X := fun e => by
              subst e
              have := (show W3.heap[g]? = some (.cells _ 32 (0, 0)) from (hBc.block g hgl).trans hgc).symm.trans hX3
              cases this
            have z3 : W3.cell? ⟨X, 3, none⟩ = some (.int .i64 r.f3) := (blk_cell hX3 3).trans rfl
            go_cut [] (fun W4 => ∃ m, W4 = (W3.drewN m).setCell ⟨g, j * 5 + 3, none⟩ (.int .i64 (mn s.f3 r.f3)))
            case first =>
              go_region
              all_goals go_wp2_with fail
              all_goals
                go_meet
                refine ⟨1, ?_⟩
                unfold mn
                split <;> first | rfl | omega
            case rest =>
              obtain ⟨m4, rfl⟩ := hcut
              obtain ⟨hH4, hg4⟩ := H_cell (Kd.H_drewN hH m4) hj0 hj1 3 (by decide) rfl (.int .i64 (mn s.f3 r.f3)) rfl
              have qc := H_cells hH4 hj0 hj1
              have d0 := qc 0 _ rfl
              have d4 := qc 4 _ rfl
              have fr4 : ∀ q, ((W3.drewN m4).setCell ⟨g, j * 5 + 3, none⟩ (.int .i64 (mn s.f3 r.f3))).frozen? ⟨g, j * 5 + q, none⟩ = false := fun q => by rw [World.frozen?_setCell]; exact hfr q
              have hg4 : W3.grownBy ((W3.drewN m4).setCell ⟨g, j * 5 + 3, none⟩ (.int .i64 (mn s.f3 r.f3))) (some g) := (grown_drewN0 W3 m4 _).trans hg4
              have HG4 := Lib.hid hg4
              have hM4 := hM3.kept hg4 (fun e => hg3 (Option.some.inj e).symm)
              have hX4 := blk_grown hX3 hg4 (fun e => hgX (Option.some.inj e).symm)
              have hB4 := hB3.grown hg4 hB3.size (fun k e => by have := Option.some.inj e; omega)
              have hR4' := Kd.R_grown hR4 hg4 (fun k hk e => (hoki k hk).2 (Option.some.inj e))
              have HH4 := Lib.hid hH4
              clear hH hH4 hg4 hR4 hM3 hX3 hB3 hO3 qc hcc hfr d3 f3
              generalize (W3.drewN m4).setCell ⟨g, j * 5 + 3, none⟩ (.int .i64 (mn s.f3 r.f3)) = W4 at *
              have z4 : W4.cell? ⟨X, 4, none⟩ = some (.string r.f4) := (blk_cell hX4 4).trans rfl
              have hsl : s.f4.length ≤ 1099511627776 := by rw [← hs]; have := groupTo_data l0 k j; omega
              have HS4 := Lib.hid hsl
              obtain ⟨kc, hkc⟩ := contains_some s.f4 r.f4 hsl
              have HC4 := Lib.hid (Kd.R_reads' hR4').2.2
              have hc4 := (Kd.R_reads' hR4').2.1
              have HR4 := Lib.hid hR4'
              clear hR4'
              have hstep : groupTo l0 (k + 1) = (groupTo l0 k).set j (addTo s r) := by rw [groupTo_succ l0 k hlt, HX.out, groupStep_old _ _ j HJ.out HC.out, hs]
              have HST := Lib.hid hstep
              have hat : atG ((groupTo l0 k).set j (addTo s r)) = atG (groupTo l0 k) := funext fun k' => by have := atG_old (groupTo l0 k) r j hjl k'; rw [hs] at this; exact this
              have HAT := Lib.hid hat
              clear hstep hat hs hsl
              cases hany : s.f4.any (fun x => x.toList = r.f4.toList) with
              | true =>
                rw [hany] at hkc
                have HKC := Lib.hid hkc
                have hadd : addTo s r = ⟨s.f0, s.f1, s.f2, mn s.f3 r.f3, s.f4⟩ := by unfold addTo; rw [if_pos hany]
                have HADD := Lib.hid hadd
                clear hany hkc hadd
                go_upto_region 13 with fail
                go_quiet (first | (go_at_call 65; (with_reducible refine (slices_Contains_string_string.calls kc A4 c4 s.f4 r.f4 true _ ?side1 hc4 HKC.out).mono ?_); (case side1 => exact Kd.C_drewN HC4.out _); rintro e w' ⟨rfl, ⟨nd, rfl⟩⟩; exact ⟨rfl, _, World.drewN_drewN _ _ _⟩))
                go_wp2_with fail
                go_roundw
                case rel => exact ⟨k + 1, by go_num, by omega, Lib.hid (by rw [HST.out, HADD.out]; exact Kd.S_drewN (Kd.H_back HH4.out (k32_mkM _ _ _ (⟨s.f0, s.f1, s.f2, mn s.f3 r.f3, s.f4⟩ : S32) HR4.out) (fun _ hk => hk)) _), by rw [HST.out, HAT.out]; exact (hM4.drewN _).mono (Nat.le_succ k), pw_below_drewN hB4 _⟩
                case measure => simp [intOf]; omega
              | false =>
                rw [hany] at hkc
                have HKC := Lib.hid hkc
                have hadd : addTo s r = ⟨s.f0, s.f1, s.f2, mn s.f3 r.f3, s.f4 ++ [r.f4]⟩ := by unfold addTo; rw [if_neg (by rw [hany]; decide)]
                have HADD := Lib.hid hadd
                clear hany hkc hadd
                go_upto_region 13 with fail
                go_quiet (first | (go_at_call 65; (with_reducible refine (slices_Contains_string_string.calls kc A4 c4 s.f4 r.f4 false _ ?side1 hc4 HKC.out).mono ?_); (case side1 => exact Kd.C_drewN HC4.out _); rintro e w' ⟨rfl, ⟨nd, rfl⟩⟩; exact ⟨rfl, _, World.drewN_drewN _ _ _⟩))
                have hM5 := hM4.drewN nq
                have hX5 : (W4.drewN nq).heap[X]? = _ := hX4
                have hB5 := pw_below_drewN hB4 nq
                have HR5 := Lib.hid (Kd.R_drewN HR4.out nq)
                have HH5 := Lib.hid (Kd.H_drewN HH4.out nq)
                have d5 : (W4.drewN nq).cell? ⟨g, j * 5 + 4, none⟩ = _ := d4
                have z5 : (W4.drewN nq).cell? ⟨X, 4, none⟩ = _ := z4
                have fr5 : ∀ q, (W4.drewN nq).frozen? ⟨g, j * 5 + q, none⟩ = false := fun q => fr4 q
                have hl5 : g < (W4.drewN nq).heap.size := World.block_lt_of_cell? _ _ d5
                clear hM4 hX4 hB4 HR4 HH4 d4 z4 fr4 HG4 HC4 d0
                generalize W4.drewN nq = W5 at *
                go_upto_region 14 with fail
                have hM6 : MapT Try.prog 81 encG (Value.int .i64) W5.drew w.heap.size k (atG (groupTo l0 k)) := hM5
                have hB6 : Below w.heap.size w W5.drew := below_drew1 hB5
                have HR6 := Lib.hid (Kd.R_drew HR5.out)
                have HH6 := Lib.hid (Kd.H_drew HH5.out)
                have d6 : W5.drew.cell? ⟨g, j * 5 + 4, none⟩ = _ := d5
                have fr6 : W5.drew.frozen? ⟨g, j * 5 + 4, none⟩ = false := fr5 4
                have hl6 : g < W5.drew.heap.size := hl5
                have a5 := (World.cell?_alloc_lt W5 (.cells #[.string r.f4] 9) ⟨g, j * 5 + 4, none⟩ hl5).trans d5
                clear hM5 hB5 HR5 HH5 hl5
                go_region_law (refine Kd.R_append_step Kd.string (w0 := w) (W := W5.drew) w.heap.size (by rfl) (.tmp 84) (.tmp 87) 30 9 (.string ⟨#[]⟩) 16 rfl Try.underlying30 (by kernel_rfl) rfl (by decide) (by decide) (.slice A4 s.f4.length c4) s.f4 r.f4 [.string r.f4] (fun k => oki k ∨ True ∧ W5.drew.heap.size ≤ k) (fun _ => False) rfl rfl rfl (fun _ hk => hk.elim) (fun k hk => .inr ⟨trivial, hk⟩) (Kd.R_mono HR6.out (fun _ h => .inl h)) hB6 hB6.size (by have := HS4.out; omega) ?_; intro v1 w1 hR1 hB1 hg1 hat1; obtain ⟨A1, c1, rfl⟩ := Kd.R_slice hR1; have hne1 : some g ≠ (Value.slice A4 s.f4.length c4).ownBlock := (fun e => (hoki g (HR6.out.1 g e.symm)).2 rfl); have d7 : w1.cell? ⟨g, j * 5 + 4, none⟩ = some (.slice A4 s.f4.length c4) := (hg1.cell_far ⟨g, j * 5 + 4, none⟩ hl6 hne1).trans d6; have f7 : w1.frozen? ⟨g, j * 5 + 4, none⟩ = false := (hg1.frozen_far ⟨g, j * 5 + 4, none⟩ hl6 hne1).trans fr6; have HH7 := Lib.hid (Kd.H_grown (Kd.H_widen HH6.out) hg1 (fun k e => .inl (HR6.out.1 k e))); have hM7 := hM6.kept hg1 (fun e => by obtain ⟨cc, hcc⟩ := Kd.R_typed HR6.out _ e.symm; exact hM6.ne_cells hcc rfl))
                all_goals
                  obtain ⟨hH8, hg8⟩ := H_cell HH7.out hj0 hj1 4 (by decide) rfl (.slice A1 (s.f4.length + 1) c1) rfl
                  rw [List.length_append, List.length_singleton] at hR1
                  have hR8 := Lib.hid (Kd.R_grown hR1 hg8 (fun k hk e => by obtain rfl := Option.some.inj e; rcases hk with hk | hk; exact (hoki _ hk).2 rfl; have := hk.2; omega))
                  have hM8 := (hM7.kept hg8 (fun e => hg3 (Option.some.inj e).symm)).mono (Nat.le_succ k)
                  have hB8 := hB1.grown hg8 hB1.size (fun k e => by have := Option.some.inj e; omega)
                  have HH8 := Lib.hid hH8
                  clear hH8 HH7 hR1 hM7 hB1 hg1 hM6 hB6 HR6 HH6 a5
                  go_wp2_with fail
                  go_roundw
                  case rel => exact ⟨k + 1, by go_num, by omega, Lib.hid (by rw [HST.out, HADD.out]; exact Kd.H_back HH8.out (k32_mkM _ _ _ (⟨s.f0, s.f1, s.f2, mn s.f3 r.f3, s.f4 ++ [r.f4]⟩ : S32) hR8.out) (fun _ hk => hk)), by rw [HST.out, HAT.out]; exact hM8, hB8⟩
                  case measure => simp [intOf]; omega
          · have HC := Lib.hid hc
            have hne : name_Check.f r.f0 ≠ some 0 := fun e => hc0 (Option.some.inj (hc.symm.trans e))
            have HNE := Lib.hid hne
            clear hc hne
            go_wp2_with (first | (at_lookup; refine wpList_look _ rfl _ _ 78 rfl hM2 keyedG Try.underlying78 (zeroInt _) rfl (keyR r) rfl HK.out ?_; rw [HF.out]) | (go_at_call 64; refine (name_Check.calls r.f0 c _ HC.out).mono ?_; rintro e W3 ⟨rfl, hBc⟩; have hO2 := Lib.hid (Kd.S_below hO2.out hBc); have hM2 := hM2.below hBc; have hX2 := (hBc.block X (blk_lt hX2)).trans hX2; have hBB := below_then hBB hBB.size hBc; (have g0 := pw_cell_below hBc g0); (have g1 := pw_cell_below hBc g1); (have g2 := pw_cell_below hBc g2); clear e0 e1 e2 e3 e4) | (at_mapUpdate; refine wpList_store _ rfl _ _ _ 78 rfl hM2 keyedG Try.underlying78 (by unfold maxLen; omega) rfl (keyR r) rfl HK.out ((groupTo l0 k).length : Int) rfl (atG (groupTo l0 k ++ [newSet r])) (atG_new _ _).1 (atG_new _ _).2.1 (atG_new _ _).2.2 ?_; intro W3 hM3 hT3; have hX3 := blk_grown hX2 hT3.grown (fun e => hM2.ne_cells hX2 (by cases e; rfl)); have e0 := blk_cell hX3 0; have e1 := blk_cell hX3 1; have e2 := blk_cell hX3 2; have e3 := blk_cell hX3 3; have e4 := blk_cell hX3 4; simp only [List.getElem?_toArray, List.getElem?_cons_zero, List.getElem?_cons_succ] at e0 e1 e2 e3 e4; have hO3 := Lib.hid (S_map hO2.out hM2.isMap hT3.grown); have hB3 := hBB.grown hT3.grown hBB.size (fun k e => by cases e; exact Nat.le_refl _); clear hO2 hM2 hX2 hBB) | ((with_reducible refine gate_dst (N := 55) rfl ?_); refine Kd.R_lit Kd.string (w0 := w) w.heap.size 9 rfl (N := 55) rfl (xs := [r.f4]) (inner := [.string r.f4]) (ok := fun k => W3.heap.size ≤ k) (okp := fun _ => False) ?hr ?hp (fun _ hk => hk.elim) (Nat.le_refl _) hB3 hB3.size (by simp) ?_; (case hr => first | (go_simp; done) | (go_simp; rfl)); (case hp => exact Kd.reps_scalar [r.f4]); intro v5 W5 hR5 hB5 hg5 hat5; obtain ⟨A5, c5, rfl⟩ := Kd.R_slice hR5; have hO5 := Lib.hid (Kd.S_grown (Kd.S_mono (Kd.S_bound hO3.out) (ok' := fun k => True ∧ ¬ W3.heap.size ≤ k) (fun k hk => ⟨trivial, by have := hk.2.2.1; omega⟩)) hg5 (fun _ _ => by simp)); have hM5 := hM3.kept hg5 (by simp); have hX5 := Lib.hid (blk_grown hX3 hg5 (by simp)); have hlt3 := Lib.hid (Kd.S_lt hO3.out); clear hO3 hM3 hX3 e0 e1 e2 e3 e4) | (at_builtin; refine Kd.S_append k32 (w0 := w) w.heap.size rfl (.tmp 44) (.tmp 57) 25 32 (.agg #[.string ⟨#[]⟩, .int .i64 0, .int .i64 0, .int .i64 0, .slice none 0 0]) 64 rfl Try.underlying25 infoG32 rfl (by decide) (by omega) (.slice (some ⟨g, 0, none⟩) (groupTo l0 k).length cv) (groupTo l0 k) (newSet r) [.string r.f0, .int .i64 r.f1, .int .i64 r.f2, .int .i64 r.f3, .slice A5 1 c5] (fun _ => True) (fun k => W3.heap.size ≤ k) rfl rfl ?aP ?aK ?aF ?aO ?aB ?aS ?aL ?_; (case aP => exact k32_mkM _ _ _ (newSet r) hR5); (case aK => exact fun k hk => ⟨trivial, fun e => by have := hlt3.out k e.symm; omega⟩); (case aF => exact fun _ _ => trivial); (case aO => exact hO5.out); (case aB => exact hB5); (case aS => exact hB5.size); (case aL => have := groupTo_length l0 k; omega); intro v4 W4 hO4 hB4 hg4 hat4))
            go_roundw
            case rel => exact ⟨k + 1, by go_num, by omega, Lib.hid (by rw [groupTo_succ l0 k hlt, HX.out, groupStep_new _ _ (.inr HNE.out)]; exact hO4), by
              rw [groupTo_succ l0 k hlt, HX.out, groupStep_new _ _ (.inr HNE.out)]
              exact hM5.kept hg4 (fun e => by obtain ⟨cells, hc⟩ := Kd.S_typed hO5.out _ e.symm; exact hM5.ne_cells hc rfl), hB4⟩
            case measure => simp [intOf]; omega
    · obtain rfl : k = l0.length := by omega
      obtain ⟨Av, cv, rfl⟩ := Kd.S_slice HO.out
      go_wp2
      go_ret
      exact ⟨_, rfl, HO.out, HB⟩
end Go.Proofs.Ytdkecfjeiookdaa.PA
