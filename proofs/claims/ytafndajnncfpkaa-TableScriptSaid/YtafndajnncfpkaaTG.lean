/- A contract by hand: who goes for a new one. -/
import Derived.Test.YtafndajnncfpkaaTA
import Derived.Test.YtafndajnncfpkaaTC
import Derived.Shelf.SlicesE.DeleteFunc
import Derived.Shelf.SlCmpFuncs.MinMaxFunc
namespace Go.Proofs.Ytafndajnncfpkaa.Tg
open Go Go.RowKit Go.Maps Go.Sort Go.Shelf Go.Proofs.YtafndajnncfpkaaW.PrintWords Go.Proofs.YtafndajnncfpkaaW.PrintLast Go.Proofs.YtafndajnncfpkaaW.PrintMore Go.Proofs.Ytafndajnncfpkaa.Mp Go.Proofs.Ytafndajnncfpkaa.Tm Go.Proofs.Ytafndajnncfpkaa.Tb Go.Proofs.Ytafndajnncfpkaa.Tc Go.Proofs.Ytafndajnncfpkaa.Ta
attribute [local go_sem] max2_int min2_int max_two min_two
set_option linter.unusedVariables false
set_option linter.unusedSimpArgs false

abbrev NumW := {n : Int // wfI n}
instance : Inhabited NumW := ⟨⟨0, (wfI_iff 0).2 (by omega)⟩⟩
def encN (x : NumW) : Value := .int .i64 x.1
theorem encN_one : OneCell encN := fun _ => rfl
def better (L : List Cl) (x m : NumW) : Bool := decide (cmpT L x.1 m.1 < 0)
/-- x stands ahead of m: touched earlier, or at once with it and of a lesser number. -/
def Ahead (L : List Cl) (x m : Int) : Prop := atOf L x < atOf L m ∨ atOf L x = atOf L m ∧ x < m
theorem cmpI_neg (x y : Int) : cmpI x y < 0 ↔ x < y := by
  unfold cmpI
  split
  · omega
  · split <;> omega
theorem cmpI_zero (x y : Int) : cmpI x y = 0 ↔ x = y := by
  unfold cmpI
  split
  · omega
  · split <;> omega
theorem better_iff (L : List Cl) (x m : NumW) : better L x m = true ↔ Ahead L x.1 m.1 := by
  unfold better Ahead cmpT
  rw [decide_eq_true_iff]
  by_cases h : cmpI (atOf L x.1) (atOf L m.1) = 0
  · rw [if_pos h, cmpI_neg]
    have := (cmpI_zero _ _).1 h
    omega
  · rw [if_neg h, cmpI_neg]
    have := mt (cmpI_zero _ _).2 h
    omega
theorem pick_least (L : List Cl) (d : Array NumW) : ∀ k, k < d.size → (∃ j, j ≤ k ∧ Lib.pickBy (better L) d k = d[j]!) ∧ ∀ j, j ≤ k → ¬ Ahead L (d[j]!).1 (Lib.pickBy (better L) d k).1
  | 0, _ => ⟨⟨0, Nat.le_refl _, rfl⟩, fun j hj => by
      obtain rfl : j = 0 := by omega
      show ¬ Ahead L _ _
      unfold Ahead
      show ¬ (atOf L (d[0]!).1 < atOf L (d[0]!).1 ∨ _ ∧ (d[0]!).1 < (d[0]!).1)
      omega⟩
  | k + 1, hk => by
    obtain ⟨⟨j0, hj0, e0⟩, hl⟩ := pick_least L d k (by omega)
    have e : Lib.pickBy (better L) d (k + 1) = if better L d[k + 1]! (Lib.pickBy (better L) d k) then d[k + 1]! else Lib.pickBy (better L) d k := rfl
    rw [e]
    generalize Lib.pickBy (better L) d k = m at *
    by_cases hb : better L d[k + 1]! m = true
    · rw [if_pos hb]
      have hb' := (better_iff _ _ _).1 hb
      refine ⟨⟨k + 1, Nat.le_refl _, rfl⟩, fun j hj => ?_⟩
      by_cases hj1 : j = k + 1
      · subst hj1
        unfold Ahead
        omega
      · have := hl j (by omega)
        unfold Ahead at *
        omega
    · rw [if_neg hb]
      refine ⟨⟨j0, by omega, e0⟩, fun j hj => ?_⟩
      by_cases hj1 : j = k + 1
      · subst hj1
        exact mt (better_iff _ _ _).2 hb
      · exact hl j (by omega)
/-- Who goes: nobody, where nobody is idle; else the idle one that stands ahead of all idle ones. -/
def GoesP (L : List Cl) (out : Int) (gone : Bool) : Prop :=
  (gone = false ∧ out = 0 ∧ ∀ c ∈ L, idleOf L c.1 = false) ∨
  (gone = true ∧ out ∈ L.map (·.1) ∧ idleOf L out = true ∧ ∀ c ∈ L, idleOf L c.1 = true → ¬ Ahead L c.1 out)
theorem goes_plain (L : List Cl) (d : Array NumW) (hd : d.toList.map (·.1) = (sortL L).filter (fun k => idleOf L k)) : (d.size = 0 → GoesP L 0 false) ∧ (0 < d.size → GoesP L (Lib.pickBy (better L) d (d.size - 1)).1 true) := by
  have hmem : ∀ c ∈ L, c.1 ∈ sortL L := fun c hc => List.mem_mergeSort.2 (List.mem_map.2 ⟨c, hc, rfl⟩)
  constructor
  · intro h0
    refine Or.inl ⟨rfl, rfl, fun c hc => ?_⟩
    have : (sortL L).filter (fun k => idleOf L k) = [] := by
      rw [← hd, List.map_eq_nil_iff]
      exact List.eq_nil_of_length_eq_zero (by simpa using h0)
    have := List.filter_eq_nil_iff.1 this c.1 (hmem c hc)
    simpa using this
  · intro h0
    obtain ⟨⟨j, hj, e⟩, hl⟩ := pick_least L d (d.size - 1) (by omega)
    have hin : (Lib.pickBy (better L) d (d.size - 1)).1 ∈ (sortL L).filter (fun k => idleOf L k) := by
      rw [← hd, e, getElem!_pos d j (by omega)]
      exact List.mem_map.2 ⟨_, Array.mem_toList_iff.2 (Array.getElem_mem _), rfl⟩
    obtain ⟨h1, h2⟩ := List.mem_filter.1 hin
    refine Or.inr ⟨rfl, List.mem_mergeSort.1 h1, h2, fun c hc hi => ?_⟩
    have hc' : c.1 ∈ d.toList.map (·.1) := by
      rw [hd]
      exact List.mem_filter.2 ⟨hmem c hc, hi⟩
    obtain ⟨x, hx, ex⟩ := List.mem_map.1 hc'
    obtain ⟨i, hi', ei⟩ := List.mem_iff_getElem.1 hx
    have hi2 : i < d.size := by simpa using hi'
    have := hl i (by omega)
    rw [getElem!_pos d i hi2] at this
    rw [Array.getElem_toList] at ei
    rw [ei, ex] at this
    exact this
theorem grown_sort (w : World) (blk n : Nat) (dk : Array NumW) (os : Array Obj) : w.grownBy (sortWorld encN w blk 0 n dk os) (some blk) := by
  refine ⟨rfl, rfl, rfl, ?_, fun i hi hne => ?_⟩
  · unfold sortWorld
    simp [Sort.grow, Sort.ahead]
  · have hne' : i ≠ blk := fun e => hne (by rw [e])
    unfold sortWorld
    rw [Sort.heap_grow_old _ _ (by simpa [Sort.ahead] using hi)]
    simp [putRow, mapBlock, Sort.ahead, Array.getElem?_modify, Ne.symm hne']
def encs (L : List Cl) (H : ∀ x ∈ sortL L, wfI x) : Array NumW := ((sortL L).attachWith wfI H).toArray
theorem holds_row {w : World} {base blk cap : Nat} {e : TypeId} {L : List Cl} (H : ∀ x ∈ sortL L, wfI x) (h : w.ownsRow base e 1 (.slice (some ⟨blk, 0, none⟩) L.length cap) L.length ((sortL L).map encZ)) : Holds encN w blk 0 (encs L H) := by
  intro j hj
  have hj1 : j < (sortL L).length := by simpa [encs] using hj
  have hl : (sortL L).length = L.length := by rw [sortL, List.length_mergeSort, List.length_map]
  refine ⟨?_, ?_⟩
  · have := h.cellAt j (by omega)
    rw [Nat.zero_add, this, getElem!_pos _ j hj]
    rw [List.getElem?_map, List.getElem?_eq_getElem hj1]
    simp [encs, encN, encZ]
  · rw [Nat.zero_add]
    exact h.frozenAt j
theorem encs_map (L : List Cl) (H : ∀ x ∈ sortL L, wfI x) : (encs L H).toList.map (·.1) = sortL L := by
  simp [encs]
theorem encs_size (L : List Cl) (H : ∀ x ∈ sortL L, wfI x) : (encs L H).size = L.length := by
  simp [encs, sortL]
theorem pred_at {C T b n : Nat} {most : Int} {L : List Cl} {w : World} (h : TabAt w T b n most L) (hC : w.cell? ⟨C, 0, none⟩ = some (.pointer (some ⟨T, 0, none⟩))) : PredAt Try.prog 31 #[.pointer (some ⟨C, 0, none⟩)] encN (fun k => !idleOf L k.1) w :=
  fun W x hb => goes1 C T b n most L x.1 W (h.below hb) (hb.cell (World.block_lt_of_cell? w _ hC) |>.trans hC) x.2
theorem pred_over {C T b n blk size : Nat} {most : Int} {L : List Cl} {w : World} (h : TabAt w T b n most L) (hC : w.cell? ⟨C, 0, none⟩ = some (.pointer (some ⟨T, 0, none⟩))) (h1 : T ≠ blk) (h2 : b ≠ blk) (h3 : C ≠ blk) : PredOver Try.prog 31 #[.pointer (some ⟨C, 0, none⟩)] encN (fun k => !idleOf L k.1) blk 0 size w :=
  fun m os dk x _ => goes1 C T b n most L x.1 _ (h.kept (grown_sort w blk m dk os) (by simpa using h1) (by simpa using h2)) ((grown_sort w blk m dk os).cell hC (by simpa using h3)) x.2
theorem cmp_lays {C T b n blk size : Nat} {most : Int} {L : List Cl} {w : World} (h : TabAt w T b n most L) (hC : w.cell? ⟨C, 0, none⟩ = some (.pointer (some ⟨T, 0, none⟩))) (h1 : T ≠ blk) (h2 : b ≠ blk) (h3 : C ≠ blk) : CmpLays1 Try.prog 33 #[.pointer (some ⟨C, 0, none⟩)] encN (fun x y => cmpT L x.1 y.1) blk 0 size w :=
  fun m os dk _ x y => goes2 C T b n most L x.1 y.1 _ (h.kept (grown_sort w blk m dk os) (by simpa using h1) (by simpa using h2)) ((grown_sort w blk m dk os).cell hC (by simpa using h3)) x.2 y.2
theorem pos_of {n : Nat} (h : ((n : Int) == 0) = false) : 0 < n := by
  rcases Nat.eq_zero_or_pos n with e | e
  · rw [e] at h
    cases h
  · exact e
theorem grown_put (w : World) (blk n : Nat) (dk : Array NumW) : w.grownBy (putRow encN (Sort.ahead w n) blk 0 dk) (some blk) := by
  have := grown_sort w blk n dk #[]
  unfold sortWorld at this
  rwa [Sort.grow_empty] at this
theorem below_row {W0 W W1 : World} {g : Nat} (h : Below W0.heap.size W0 W) (hg : W.grownBy W1 (some g)) (h1 : W0.heap.size ≤ g) : Below W0.heap.size W0 W1 :=
  ⟨hg.os.trans h.os, hg.tape.trans h.tape, hg.output.trans h.output, Nat.le_trans h.size hg.size, fun i hi => (hg.block i (Nat.lt_of_lt_of_le hi h.size) (by simp; omega)).trans (h.block i hi)⟩
theorem del_c {C T b n g cap base : Nat} {most : Int} {L : List Cl} {w : World} (H : ∀ x ∈ sortL L, wfI x) (hlen : L.length ≤ 1024) (h : TabAt w T b n most L) (hC : w.cell? ⟨C, 0, none⟩ = some (.pointer (some ⟨T, 0, none⟩))) (hrow : w.ownsRow base 3 1 (.slice (some ⟨g, 0, none⟩) L.length cap) L.length ((sortL L).map encZ)) (hcap : L.length ≤ cap) (h1 : T ≠ g) (h2 : b ≠ g) (h3 : C ≠ g) :
    Calls Try.prog 30 #[.slice (some ⟨g, 0, none⟩) L.length cap, .func (.func 31) #[] #[.pointer (some ⟨C, 0, none⟩)]] w fun e w' => ∃ F : Array NumW, F.toList.map (·.1) = (sortL L).filter (fun k => idleOf L k) ∧ e = .returned (.slice (some ⟨g, 0, none⟩) F.size cap) ∧ Holds encN w' g 0 F ∧ F.size ≤ 1024 ∧ w.grownBy w' (some g) := by
  have hH := holds_row H hrow
  have hs := encs_size L H
  have c := AnyE.slices_DeleteFunc Try.delA encN encN_one (fun k => !idleOf L k.1) 31 #[.pointer (some ⟨C, 0, none⟩)] (enters_of Try.func31 (by kernel_rfl) rfl) ⟨0, (wfI_iff 0).2 (by omega)⟩ (fun w => by kernel_rfl) g 0 cap (encs L H) w (pred_at h hC) (pred_over h hC h1 h2 h3) hH (by rw [hs]; omega) (by rw [hs]; exact hcap)
  change Calls Try.prog 30 _ _ _ at c
  rw [hs] at c
  refine c.mono ?_
  rintro e w' ⟨rfl, q, rfl⟩
  have hfl : ((encs L H).toList.filter fun x => !(!idleOf L x.1)).length ≤ L.length := by
    refine Nat.le_trans (List.length_filter_le _ _) ?_
    rw [Array.length_toList, hs]
    exact Nat.le_refl _
  refine ⟨((encs L H).toList.filter fun x => !(!idleOf L x.1)).toArray, ?_, ?_, ?_, ?_, grown_put _ _ _ _⟩
  · rw [← encs_map L H, List.filter_map]
    simp only [Bool.not_not]
    rfl
  · simp
  · intro j hj
    have hj' : j < ((encs L H).toList.filter fun x => !(!idleOf L x.1)).length := by simpa using hj
    have := holds_putRow encN (Sort.ahead w q) g 0 (encs L H) (((encs L H).toList.filter fun x => !(!idleOf L x.1)) ++ List.replicate (L.length - ((encs L H).toList.filter fun x => !(!idleOf L x.1)).length) (⟨0, (wfI_iff 0).2 (by omega)⟩ : NumW)).toArray hH (by simp only [List.size_toArray, List.length_append, List.length_replicate, hs]; omega) j (by simp only [List.size_toArray, List.length_append]; omega)
    rw [this.1]
    refine ⟨?_, this.2⟩
    congr 2
    rw [getElem!_pos _ j (by simp only [List.size_toArray, List.length_append]; omega), getElem!_pos _ j hj]
    simp only [List.getElem_toArray]
    rw [List.getElem_append_left hj']
  · simp only [List.size_toArray]
    omega
theorem min_c {C T b n g cap : Nat} {most : Int} {L : List Cl} {F : Array NumW} {w : World} (h : TabAt w T b n most L) (hC : w.cell? ⟨C, 0, none⟩ = some (.pointer (some ⟨T, 0, none⟩))) (hH : Holds encN w g 0 F) (hg : g < w.heap.size) (hF : F.size ≤ 1024) (h0 : 0 < F.size) (h1 : T ≠ g) (h2 : b ≠ g) (h3 : C ≠ g) :
    Calls Try.prog 32 #[.slice (some ⟨g, 0, none⟩) F.size cap, .func (.func 33) #[] #[.pointer (some ⟨C, 0, none⟩)]] w fun e w' => e = .returned (.int .i64 (Lib.pickBy (better L) F (F.size - 1)).1) ∧ w.grownBy w' (some g) := by
  have c := Any.slices_MinFunc Try.minA encN encN_one (fun x y => cmpT L x.1 y.1) 33 #[.pointer (some ⟨C, 0, none⟩)] g 0 cap F w (enters_of Try.func33 (by kernel_rfl) rfl) (cmp_lays h hC h1 h2 h3) hH hg (by omega) h0
  change Calls Try.prog 32 _ _ _ at c
  refine c.mono ?_
  rintro e w' ⟨rfl, m, os, rfl⟩
  exact ⟨rfl, grown_sort _ _ _ _ _⟩
set_option maxRecDepth 100000 in
set_option maxHeartbeats 1000000 in
theorem goes_at (T b n : Nat) (most : Int) (L : List Cl) (w : World) (h : TabAt w T b n most L) (hL : WfL L) (hm : most ≠ 0) (hlen : L.length ≤ 1024) (hne : L ≠ []) : Calls Try.prog 26 #[.pointer (some ⟨T, 0, none⟩)] w fun e w' => ∃ (out : Int) (gone : Bool), e = .returned (.tuple #[.int .i64 out, .bool gone]) ∧ GoesP L out gone ∧ Below w.heap.size w w' := by
  have hlt := h.lt
  have H : ∀ x ∈ sortL L, wfI x := fun x hx => by
    obtain ⟨c, hc, rfl⟩ := List.mem_map.1 (List.mem_mergeSort.1 hx)
    exact hL.2 c hc
  have HT := Lib.hid h
  clear h
  go_enter Try.func26, Try.ntmps26
  have hC1 : (w.alloc (Obj.cells #[Value.pointer (some ⟨T, 0, none⟩)] 24)).cell? ⟨w.heap.size, 0, none⟩ = some (.pointer (some ⟨T, 0, none⟩)) := by simp
  have hB0 : Below w.heap.size w (w.alloc (Obj.cells #[Value.pointer (some ⟨T, 0, none⟩)] 24)) := (Below.refl _ _).alloc (Nat.le_refl _) _
  have HT1 := Lib.hid (HT.out.alloc (Obj.cells #[Value.pointer (some ⟨T, 0, none⟩)] 24))
  have hsz : (w.alloc (Obj.cells #[Value.pointer (some ⟨T, 0, none⟩)] 24)).heap.size = w.heap.size + 1 := by simp
  have HC1 := Lib.hid hC1
  clear hC1
  go_wp2_with (first
    | (go_at_call 20; refine (all_at T b n most L _ HT1.out hL hm hlen).mono ?_; rintro e w2 ⟨v, rfl, hrow, hnil, hB⟩
       rcases hrow.2 with ⟨_, h0⟩ | ⟨g, cap, cur, rfl, hg, hcells, hc1, _, _, _⟩
       · exact absurd (List.eq_nil_of_length_eq_zero h0) hne
       have hgl : g < w2.heap.size := (Array.getElem?_eq_some_iff.1 hcells).1
       have HT2 := Lib.hid (HT1.out.below hB)
       have HC2 := Lib.hid ((hB.cell (World.block_lt_of_cell? _ _ HC1.out)).trans HC1.out)
       have hg' : w.heap.size + 1 ≤ g := by omega
       have HB2 := Lib.hid (hB0.trans (hB.mono (by omega)))
       have cD := Lib.hid (del_c H hlen HT2.out HC2.out hrow hc1 (by omega) (by omega) (by omega))
       clear hrow hnil hB hcells)
    | (go_at_call 30; refine cD.out.mono ?_; rintro e w3 ⟨F, hF, rfl, hH, hFs, hgr⟩
       have HT3 := Lib.hid (HT2.out.kept hgr (by simp; omega) (by simp; omega))
       have HC3 := Lib.hid (hgr.cell HC2.out (by simp; omega))
       have HB3 := Lib.hid (below_row HB2.out hgr (by omega))
       have HF := Lib.hid hF
       have HH := Lib.hid hH
       have hgl3 : g < w3.heap.size := Nat.lt_of_lt_of_le hgl hgr.size
       clear hF hH hgr)
    | (go_at_call 32; have h0' : 0 < F.size := pos_of (by assumption); refine (min_c HT3.out HC3.out HH.out hgl3 hFs h0' (by omega) (by omega) (by omega)).mono ?_; rintro e w4 ⟨rfl, hgr4⟩))
  · rename_i h0
    have h0' : F.size = 0 := by simpa using h0
    go_ret2
    exact ⟨0, false, rfl, (goes_plain L F HF.out).1 h0', HB3.out⟩
  · rename_i h0
    have h0' : 0 < F.size := pos_of h0
    go_ret2
    exact ⟨_, true, rfl, (goes_plain L F HF.out).2 h0', below_row HB3.out hgr4 (by omega)⟩
end Go.Proofs.Ytafndajnncfpkaa.Tg
