/- The document's table (ostiaryref20): Touch. -/
import Derived.Lib.Hide
import Derived.Deep.RegionHeld3
import Derived.BigQuiet
import Derived.Outline
import Derived.Test.YtafndajnncfpkaaSC
namespace Go.Proofs.Ytafndajnncfpkaa.Sd
open Go Go.RowKit Go.Maps Go.Sort Go.Shelf Go.Proofs.YtafndajnncfpkaaW.PrintWords Go.Proofs.YtafndajnncfpkaaW.PrintLast Go.Proofs.YtafndajnncfpkaaW.PrintMore Go.Proofs.Ytafndajnncfpkaa.Mp Go.Proofs.Ytafndajnncfpkaa.Tm Go.Proofs.Ytafndajnncfpkaa.Tb Go.Proofs.Ytafndajnncfpkaa.Tc Go.Proofs.Ytafndajnncfpkaa.Ta Go.Proofs.Ytafndajnncfpkaa.Ti Go.Proofs.Ytafndajnncfpkaa.Tg Go.Proofs.Ytafndajnncfpkaa.Tt Go.Proofs.Ytafndajnncfpkaa.Ts Go.Proofs.Ytafndajnncfpkaa.Tz Go.Proofs.Ytafndajnncfpkaa.Tq Go.Proofs.Ytafndajnncfpkaa.Tv Go.Proofs.Ytafndajnncfpkaa.Tx Go.Proofs.Ytafndajnncfpkaa.Sa Go.Proofs.Ytafndajnncfpkaa.Sb Go.Proofs.Ytafndajnncfpkaa.Sc
attribute [local go_sem] max2_int min2_int max_two min_two
set_option linter.unusedVariables false
set_option linter.unusedSimpArgs false
/-- In the order of their numbers. -/
def Srt (G : List Cl) : Prop := (G.map (·.1)).Pairwise (· < ·)
theorem Srt.at {G : List Cl} (h : Srt G) {i j : Nat} (hi : i < G.length) (hj : j < G.length) (hij : i < j) : G[i].1 < G[j].1 := by
  have := List.pairwise_iff_getElem.1 h i j (by simpa using hi) (by simpa using hj) hij
  simpa using this
theorem srt_of {G : List Cl} (h : ∀ i j, (hi : i < G.length) → (hj : j < G.length) → i < j → G[i].1 < G[j].1) : Srt G :=
  List.pairwise_iff_getElem.2 fun i j hi hj hij => by
    have := h i j (by simpa using hi) (by simpa using hj) hij
    simpa using this
theorem srt_add {G : List Cl} (h : Srt G) {k a : Int} {is : Bool} {i : Nat} (hi : i ≤ G.length) (h1 : ∀ j, (h : j < G.length) → j < i → G[j].1 < k) (h2 : ∀ h : i < G.length, k ≤ G[i].1) (hk : tabF G k = none) : Srt (G.take i ++ [(k, a, is)] ++ G.drop i) ∧ (G.take i ++ [(k, a, is)] ++ G.drop i).Perm ((k, a, is) :: G) := by
  have hp : (G.take i ++ [(k, a, is)] ++ G.drop i).Perm ((k, a, is) :: G) := by
    rw [List.append_assoc]
    show (G.take i ++ (k, a, is) :: G.drop i).Perm _
    refine List.perm_middle.trans ?_
    rw [List.take_append_drop]
  refine ⟨?_, hp⟩
  have hlt : ∀ j, (h : j < G.length) → i ≤ j → k < G[j].1 := fun j hj hij => by
    have hle : k ≤ G[j].1 := by
      rcases Nat.lt_or_eq_of_le hij with hlt | rfl
      · have := Srt.at h (show i < G.length by omega) hj hlt
        have := h2 (by omega)
        omega
      · exact h2 hj
    have hne : G[j].1 ≠ k := fun e => tabF_none.1 hk (List.mem_map.2 ⟨G[j], List.getElem_mem hj, e⟩)
    omega
  unfold Srt
  rw [List.append_assoc, List.map_append, List.map_append]
  refine List.pairwise_append.2 ⟨?_, ?_, fun x hx y hy => ?_⟩
  · rw [List.map_take]
    exact List.Pairwise.sublist (List.take_sublist _ _) h
  · show List.Pairwise _ (k :: _)
    refine List.pairwise_cons.2 ⟨fun y hy => ?_, ?_⟩
    · obtain ⟨c, hc, rfl⟩ := List.mem_map.1 hy
      obtain ⟨j, hj, rfl⟩ := List.mem_iff_getElem.1 hc
      rw [List.getElem_drop]
      exact hlt _ _ (by omega)
    · rw [List.map_drop]
      exact List.Pairwise.sublist (List.drop_sublist _ _) h
  · obtain ⟨c, hc, rfl⟩ := List.mem_map.1 hx
    obtain ⟨j, hj, rfl⟩ := List.mem_iff_getElem.1 hc
    rw [List.getElem_take]
    have hji : j < i := by rw [List.length_take] at hj; omega
    have hjG : j < G.length := by omega
    rcases List.mem_append.1 hy with hy | hy
    · have : y = k := by simpa using hy
      rw [this]
      exact h1 j hjG hji
    · obtain ⟨d, hd, rfl⟩ := List.mem_map.1 hy
      obtain ⟨m, hm, rfl⟩ := List.mem_iff_getElem.1 hd
      rw [List.getElem_drop]
      have := h1 j hjG hji
      have := hlt (i + m) (by rw [List.length_drop] at hm; omega) (by omega)
      omega
theorem cut_filter {G : List Cl} (hn : (G.map (·.1)).Nodup) {o : Nat} (ho : o < G.length) : G.take o ++ G.drop (o + 1) = G.filter fun c => decide (c.1 ≠ G[o].1) := by
  have hp := List.pairwise_iff_getElem.1 hn
  have e : G = G.take o ++ G[o] :: G.drop (o + 1) := by
    rw [← List.drop_eq_getElem_cons ho, List.take_append_drop]
  have ht : (G.take o).filter (fun c => decide (c.1 ≠ G[o].1)) = G.take o := List.filter_eq_self.2 fun c hc => by
    obtain ⟨j, hj, rfl⟩ := List.mem_iff_getElem.1 hc
    rw [List.length_take] at hj
    rw [List.getElem_take]
    refine decide_eq_true fun e => hp j o (by simpa using (show j < G.length by omega)) (by simpa using ho) (by omega) (by simpa using e)
  have hd : (G.drop (o + 1)).filter (fun c => decide (c.1 ≠ G[o].1)) = G.drop (o + 1) := List.filter_eq_self.2 fun c hc => by
    obtain ⟨j, hj, rfl⟩ := List.mem_iff_getElem.1 hc
    rw [List.length_drop] at hj
    rw [List.getElem_drop]
    refine decide_eq_true fun e => hp o (o + 1 + j) (by simpa using ho) (by simpa using (show o + 1 + j < G.length by omega)) (by omega) (by simpa using e.symm)
  have hf : G.filter (fun c => decide (c.1 ≠ G[o].1)) = (G.take o ++ G[o] :: G.drop (o + 1)).filter (fun c => decide (c.1 ≠ G[o].1)) := congrArg (List.filter fun c => decide (c.1 ≠ G[o].1)) e
  rw [hf, List.filter_append, List.filter_cons_of_neg (by simp), ht, hd]
/-- What the loop holds: who goes of the first j. -/
def OutP (G : List Cl) (j : Nat) (o : Int) : Prop := (o = -1 ∧ ∀ i, (h : i < G.length) → i < j → G[i].2.2 = false) ∨ ∃ p, ∃ hp : p < G.length, p < j ∧ o = (p : Int) ∧ G[p].2.2 = true ∧ ∀ i, (h : i < G.length) → i < j → G[i].2.2 = true → (i < p → G[p].2.1 < G[i].2.1) ∧ G[p].2.1 ≤ G[i].2.1
theorem OutP.zero (G : List Cl) : OutP G 0 (-1) := Or.inl ⟨rfl, fun i _ h => absurd h (by omega)⟩
theorem OutP.skip {G : List Cl} {j : Nat} {o : Int} (h : OutP G j o) (hj : j < G.length) (hi : G[j].2.2 = false) : OutP G (j + 1) o := by
  rcases h with ⟨rfl, h⟩ | ⟨p, hp, hpj, rfl, hpi, h⟩
  · refine Or.inl ⟨rfl, fun i hiG hij => ?_⟩
    by_cases e : i = j
    · subst e
      exact hi
    · exact h i hiG (by omega)
  · refine Or.inr ⟨p, hp, by omega, rfl, hpi, fun i hiG hij hii => ?_⟩
    by_cases e : i = j
    · subst e
      rw [hi] at hii
      cases hii
    · exact h i hiG (by omega) hii
theorem OutP.first {G : List Cl} {j : Nat} (h : OutP G j (-1)) (hj : j < G.length) (hi : G[j].2.2 = true) : OutP G (j + 1) (j : Int) := by
  rcases h with ⟨_, h⟩ | ⟨p, _, _, e, _⟩
  · refine Or.inr ⟨j, hj, by omega, rfl, hi, fun i hiG hij hii => ?_⟩
    by_cases e : i = j
    · subst e
      exact ⟨fun h => absurd h (by omega), Int.le_refl _⟩
    · rw [h i hiG (by omega)] at hii
      cases hii
  · omega
theorem OutP.less {G : List Cl} {j p : Nat} (h : OutP G j (p : Int)) (hp : p < G.length) (hj : j < G.length) (hi : G[j].2.2 = true) (hl : G[j].2.1 < G[p].2.1) : OutP G (j + 1) (j : Int) := by
  rcases h with ⟨e, _⟩ | ⟨p', hp', hpj, e, hpi, h⟩
  · omega
  · obtain rfl : p = p' := by omega
    refine Or.inr ⟨j, hj, by omega, rfl, hi, fun i hiG hij hii => ?_⟩
    by_cases e : i = j
    · subst e
      exact ⟨fun h => absurd h (by omega), Int.le_refl _⟩
    · have := (h i hiG (by omega) hii).2
      exact ⟨fun _ => by omega, by omega⟩
theorem OutP.more {G : List Cl} {j p : Nat} (h : OutP G j (p : Int)) (hp : p < G.length) (hj : j < G.length) (hl : ¬ G[j].2.1 < G[p].2.1) : OutP G (j + 1) (p : Int) := by
  rcases h with ⟨e, _⟩ | ⟨p', hp', hpj, e, hpi, h⟩
  · omega
  · obtain rfl : p = p' := by omega
    refine Or.inr ⟨p, hp, by omega, rfl, hpi, fun i hiG hij hii => ?_⟩
    by_cases e : i = j
    · subst e
      exact ⟨fun h => absurd h (by omega), by omega⟩
    · exact h i hiG (by omega) hii
theorem OutP.none {G : List Cl} (hG : WfL G) (h : OutP G G.length (-1)) : goesF G = (0, false) := by
  rcases h with ⟨_, h⟩ | ⟨p, _, _, e, _⟩
  · refine goes_eq hG (Or.inl ⟨rfl, rfl, fun c hc => ?_⟩)
    obtain ⟨j, hj, rfl⟩ := List.mem_iff_getElem.1 hc
    rw [idleOf_mem hG (List.getElem_mem hj)]
    exact h j hj hj
  · omega
theorem OutP.some {G : List Cl} (hG : WfL G) (hs : Srt G) {p : Nat} (hp : p < G.length) (h : OutP G G.length (p : Int)) : goesF G = (G[p].1, true) := by
  rcases h with ⟨e, _⟩ | ⟨p', hp', _, e, hpi, h⟩
  · omega
  · obtain rfl : p = p' := by omega
    have hm := List.getElem_mem hp
    refine goes_eq hG (Or.inr ⟨rfl, List.mem_map.2 ⟨_, hm, rfl⟩, by rw [idleOf_mem hG hm]; exact hpi, fun c hc hci => ?_⟩)
    obtain ⟨j, hj, rfl⟩ := List.mem_iff_getElem.1 hc
    have hmj := List.getElem_mem hj
    rw [idleOf_mem hG hmj] at hci
    obtain ⟨h1, h2⟩ := h j hj hj hci
    unfold Ahead
    rw [atOf_mem hG hmj, atOf_mem hG hm]
    rintro (hl | ⟨he, hl⟩)
    · omega
    · rcases Nat.lt_trichotomy j p with hjp | rfl | hjp
      · have := h1 hjp
        omega
      · omega
      · have := Srt.at hs hp hj hjp
        omega
theorem OutP.cases {G : List Cl} {o : Int} {j : Nat} (h : OutP G j o) : o = -1 ∨ ∃ p, p < G.length ∧ p < j ∧ o = (p : Int) := by
  rcases h with ⟨rfl, _⟩ | ⟨p, hp, hpj, rfl, _⟩
  · exact Or.inl rfl
  · exact Or.inr ⟨p, hp, hpj, rfl⟩
theorem srt_of_keys {G G' : List Cl} (h : Srt G) (hk : G'.map (·.1) = G.map (·.1)) : Srt G' := by
  unfold Srt
  rw [hk]
  exact h
def RefTouch.T19 : Bool × List (List Nat × List Nat) := (true, [([], []), ([], []), ([], []), ([2], [2]), ([3], [3]), ([4], [4]), ([], []), ([5, 6], [5, 6]), ([1, 7], [1, 7]), ([], []), ([9], [9]), ([10], [10]), ([11], [11]), ([], []), ([13], [13]), ([12, 14], [12, 14]), ([8, 15, 8], [8, 15]), ([0, 0, 1, 2, 3, 4, 5, 6, 7, 8, 9, 10, 11, 12, 13, 14, 15, 16], [0]), ([17, 0, 1, 2, 3, 4, 5, 6, 7, 8, 9, 10, 11, 12, 13, 14, 15, 16], [17]), ([18, 16, 16, 0, 1, 2, 3, 4, 5, 6, 7, 8, 9, 10, 11, 12, 13, 14, 15, 16], [16, 18])])
def RefTouch.B19 : List Nat := [0, 0, 0, 4, 12, 28, 0, 124, 254, 0, 512, 1536, 3584, 0, 8192, 32256, 65534, 131071, 262143, 524287]
theorem RefTouch.tab19 : rtab .any (opsOf Try.f16 19) = RefTouch.T19 := by kernel_rfl
theorem RefTouch.bits19 : waitsOk RefTouch.T19.2 RefTouch.B19 = true := by kernel_rfl
theorem cut_end {w W w4 : World} {R base : Nat} {most : Int} {G G1 : List Cl} {A A4 : Option Addr} {c n4 n5 c4 : Nat} (h5 : n5 = G1.length) (HRRW : RowKit.Hid (W.heap[R]? = some (.cells #[.int .i64 most, .slice A G.length c] 44 (0, 0)))) (HBW : RowKit.Hid (Below w.heap.size w W)) (HR4 : RowKit.Hid (Kd.R kCl 47 w4 W.heap.size (fun _ => True) (.slice A4 n4 c4) G1)) (HB4 : RowKit.Hid (Below W.heap.size W w4)) (hbase : base ≤ R) (hRlt : R < w.heap.size) : RefAt (w4.setCell ⟨R, 1, none⟩ (.slice A4 n5 c4)) R base most G1 ∧ w.grownBy (w4.setCell ⟨R, 1, none⟩ (.slice A4 n5 c4)) (some R) := by
  have hRW : R < W.heap.size := (Array.getElem?_eq_some_iff.1 HRRW.out).1
  have hR4 := (HB4.out.block R hRW).trans HRRW.out
  have hn := (Kd.R_reads' HR4.out).1
  have h54 : n5 = n4 := h5.trans hn.symm
  subst h54
  have hw4 : Below w.heap.size w w4 := below_then HBW.out HBW.out.size HB4.out
  refine ⟨⟨A4, c4, ?_, hbase, ?_⟩, ?_⟩
  · rw [← hn]
    simpa using blk_set hR4 1 (.slice A4 n5 c4)
  · rw [← hn]
    exact Kd.R_lower (Kd.R_set HR4.out hR4 (by decide) 1 _) (by omega)
  · refine (below_grownBy hw4 (some R)).trans ⟨rfl, rfl, rfl, by simp, fun j hj hne => ?_⟩
    exact Below.heap_setCell _ _ _ _ (by simpa using hne)
/-- What Touch leaves. -/
def TouchP (w w' : World) (R base : Nat) (most : Int) (G : List Cl) (k now : Int) : Prop := ∃ G', RefAt w' R base most G' ∧ G'.Perm (touchS most G k now) ∧ Srt G' ∧ Moved w w' R base
theorem touch_of_add {w w1 w' : World} {R base : Nat} {most k now : Int} {G G1 : List Cl} (hs : Srt G1) (hk : tabF G1 k = none) (h : AddP w1 w' R base most G1 k now false) (hg : w.grownBy w1 (some R)) (hb : base ≤ R) (hS : touchS most G k now = (k, now, false) :: G1) : TouchP w w' R base most G k now := by
  obtain ⟨i, hi, h1, h2, h3, h4⟩ := h
  obtain ⟨s1, s2⟩ := srt_add hs hi h1 h2 hk
  exact ⟨_, h3, by rw [hS]; exact s2, s1, R, hg.trans h4, hb, Or.inl rfl⟩
theorem cap1 {G : List Cl} {o : Nat} (h1 : o ≤ G.length) (h2 : G.length ≤ 1100) : (([] : List Cl).length + o) * 24 ≤ 140737488355328 := by
  simp only [List.length_nil, Nat.zero_add]
  omega
theorem cap2 {G : List Cl} {o : Nat} (h1 : o ≤ G.length) (h2 : G.length ≤ 1100) : ((G.take o).length + (G.length - (o + 1))) * 24 ≤ 140737488355328 := by
  simp only [List.length_take]
  omega
theorem len2 {G : List Cl} {o : Nat} (h1 : o < G.length) : o + (G.length - (o + 1)) = (G.take o ++ G.drop (o + 1)).length := by
  simp only [List.length_append, List.length_take, List.length_drop]
  omega
theorem len3 {G : List Cl} {o : Nat} (h1 : o < G.length) (h2 : G.length ≤ 1100) : (G.take o ++ G.drop (o + 1)).length ≤ 2000 := by
  rw [← len2 h1]
  omega
def NoRoom (G : List Cl) (most : Int) : Prop := ¬ (G.length : Int) < most
set_option maxRecDepth 100000 in
set_option maxHeartbeats 4000000 in
theorem reftouch_c (R base : Nat) (most : Int) (G : List Cl) (k now : Int) (w : World) (h : RefAt w R base most G) (hb : base ≤ w.heap.size) (hG : WfL G) (hs : Srt G) (hlen : G.length ≤ 1100) : Calls Try.prog 16 #[.pointer (some ⟨R, 0, none⟩), .int .i64 k, .int .i64 now] w fun e w' => e = .returned (.tuple #[.int .i64 (touchV most G k now).1, .bool (touchV most G k now).2.1, .int .i64 (touchV most G k now).2.2]) ∧ TouchP w w' R base most G k now := by
  have H := Lib.hid h
  obtain ⟨A, c, hR, hbase, hrow⟩ := h
  have HR := Lib.hid hrow
  have HRR := Lib.hid hR
  have HN := Lib.hid hG
  have HSrt := Lib.hid hs
  have hRlt := (Array.getElem?_eq_some_iff.1 hR).1
  have c0 : w.cell? ⟨R, 0, none⟩ = some (.int .i64 most) := by simp [World.cell?, hR]
  have c1 : w.cell? ⟨R, 1, none⟩ = some (.slice A G.length c) := by simp [World.cell?, hR]
  clear hrow hR hG hs
  by_cases hbad : badT now = true
  · have HV := Lib.hid (show touchV most G k now = (0, false, 2) from by rw [touchV, if_pos hbad])
    have HT := Lib.hid (show touchS most G k now = G from by rw [touchS, if_pos hbad])
    by_cases h1 : now < 0
    · have h1' : decide (now < 0) = true := decide_eq_true h1
      go_enter Try.func16, Try.ntmps16
      go_wp2
      go_ret3
      exact ⟨by rw [HV.out]; rfl, G, H.out, by rw [HT.out], HSrt.out, Moved.same _ hbase⟩
    · have h1' : decide (now < 0) = false := decide_eq_false h1
      have h2 : 1099511627776 < now := by simp [badT] at hbad; omega
      have h2' : decide (1099511627776 < now) = true := decide_eq_true h2
      go_enter Try.func16, Try.ntmps16
      go_wp2
      go_ret3
      exact ⟨by rw [HV.out]; rfl, G, H.out, by rw [HT.out], HSrt.out, Moved.same _ hbase⟩
  have hb1 : 0 ≤ now ∧ now ≤ 1099511627776 := by simp [badT] at hbad; omega
  have HBAD := Lib.hid hbad
  have h1' : decide (now < 0) = false := decide_eq_false (by omega)
  have h2' : decide (1099511627776 < now) = false := decide_eq_false (by omega)
  clear hbad
  go_enter Try.func16, Try.ntmps16
  go_upto_region 4 with (first
    | (go_at_call 18; (with_reducible refine (refat_c R base most G k _ H.out (by omega)).mono ?_); rintro e w1 ⟨⟨r, rfl, hP⟩, rfl⟩))
  rcases hP with ⟨i, hi, rfl, hx⟩ | ⟨rfl, hno⟩
  · as_aux_lemma =>
    have d1 : decide ((0 : Int) ≤ (i : Int)) = true := decide_eq_true (by omega)
    have p1 : (0 ≤ (i : Int)) = True := eq_true (by omega)
    have q1 : ((i : Int) < (G.length : Int)) = True := eq_true (by omega)
    have ht : (tabF G k).isSome = true := (tabF_isSome G k).2 (List.mem_map.2 ⟨G[i], List.getElem_mem hi, hx⟩)
    have HV := Lib.hid (show touchV most G k now = (0, false, 0) from by rw [touchV, if_neg HBAD.out, if_pos ht])
    have HT := Lib.hid (show touchS most G k now = G.set i (G[i].1, (if G[i].2.1 < now then now else G[i].2.1), G[i].2.2) from by
      rw [touchS, if_neg HBAD.out, if_pos ht]
      have := set_map HN.out.1 i hi (fun c => (c.1, maxI c.2.1 now, c.2.2))
      rw [this, hx]
      rfl)
    have HKeys := Lib.hid (show (G.set i (G[i].1, (if G[i].2.1 < now then now else G[i].2.1), G[i].2.2)).map (·.1) = G.map (·.1) from by
      rw [← HT.out, touchS, if_neg HBAD.out, if_pos ht, keys_touchL])
    obtain ⟨g, e1, x0, x1, x2, hf⟩ := cl_at HR.out i hi
    cases e1
    have f1 := hf (i * 3 + 1)
    clear hf hx ht
    have HRS := Lib.hid (row_set HR.out i hi 1 (by omega) (.int .i64 (if G[i].2.1 < now then now else G[i].2.1)) (G[i].1, (if G[i].2.1 < now then now else G[i].2.1), G[i].2.2) rfl)
    have hgR : R ≠ g := fun e => Kd.R_ne HR.out HRR.out (by decide) (by rw [e]; rfl)
    have hty : ∃ cells, w.heap[g]? = some (.cells cells 47 (0, 0)) := Kd.R_typed HR.out g rfl
    have hbg : base ≤ g := Kd.R_base HR.out g rfl
    go_upto_region 5 with fail
    go_region
    generalize (if G[i].2.1 < now then now else G[i].2.1) = mx at *
    go_wp2
    all_goals
      go_ret3
      refine ⟨by rw [HV.out]; rfl, G.set i (G[i].1, mx, G[i].2.2), ⟨some ⟨g, 0, none⟩, c, ?_, hbase, ?_⟩, by rw [HT.out], srt_of_keys HSrt.out HKeys.out, g, HRS.out.2.trans (grown_drewN _ 1 _), hbg, Or.inr hty⟩
      · rw [List.length_set]
        exact (HRS.out.2.block R (Array.getElem?_eq_some_iff.1 HRR.out).1 (by simpa using hgR)).trans HRR.out
      · rw [List.length_set]
        exact Kd.R_drewN HRS.out.1 1
  · have hk : tabF G k = none := tabF_none.2 fun hm => by
      obtain ⟨c', hc, e⟩ := List.mem_map.1 hm
      exact hno c' hc e
    have HK := Lib.hid hk
    have hkn : ¬ (tabF G k).isSome = true := by rw [hk]; simp
    have d1 : decide ((0 : Int) ≤ -1) = false := by decide
    clear hno hk
    by_cases hroom : (G.length : Int) < most
    · as_aux_lemma =>
      have d2 : decide ((G.length : Int) < most) = true := decide_eq_true hroom
      have HV := Lib.hid (show touchV most G k now = (0, false, 0) from by rw [touchV, if_neg HBAD.out, if_neg hkn, if_pos hroom])
      have HT := Lib.hid (show touchS most G k now = (k, now, false) :: G from by rw [touchS, if_neg HBAD.out, if_neg hkn, if_pos hroom])
      clear hkn hroom
      go_upto_region 7 with fail
      go_quiet (fail)
      have H2 := Lib.hid (H.out.drewN nq)
      have hb2 : base ≤ (w.drewN nq).heap.size := hb
      go_wp2_with (first
        | (go_at_call 27; (with_reducible refine (refadd_c R base most G k now false _ H2.out hb2 (by omega)).mono ?_); rintro e w2 ⟨rfl, hA⟩))
      go_ret3
      exact ⟨by rw [HV.out]; rfl, touch_of_add HSrt.out HK.out hA (grown_drewN w nq _) hbase HT.out⟩
    · have d2 : decide ((G.length : Int) < most) = false := decide_eq_false hroom
      have HROOM : NoRoom G most := hroom
      have HKN := Lib.hid hkn
      clear hroom hkn
      go_upto_region 7 with fail
      go_quiet (fail)
      go_wp2
      have hlb : RowKit.Hid (Below w.heap.size w (w.drewN nq)) := below_drewN'' (Below.refl _ _) nq
      generalize w.drewN nq = w1 at *
      go_loopg [10, 11] G.length (fun kq v10 v11 wr => ∃ (j : Nat) (o : Int), j + kq = G.length ∧ v10 = .int .i64 o ∧ v11 = .int .i64 (j : Int) ∧ RowKit.Hid (OutP G j o) ∧ RowKit.Hid (Below w.heap.size w wr))
      case atStart => exact ⟨0, -1, by omega, rfl, rfl, OutP.zero G, hlb⟩
      case round =>
        obtain ⟨j, o, hj, rfl, rfl, HO, HB⟩ := hrel
        clear hlb
        have y1 := pw_cell_below HB.out c1
        have HRr := Lib.hid (Kd.R_below HR.out HB.out)
        clear c0 c1
        by_cases hjq : j < G.length
        · obtain ⟨q, rfl⟩ : ∃ q, gk = q + 1 := ⟨gk - 1, by omega⟩
          have d3 : decide ((j : Int) < (G.length : Int)) = true := decide_eq_true (by omega)
          have p1 : (0 ≤ (j : Int)) = True := eq_true (by omega)
          have q1 : ((j : Int) < (G.length : Int)) = True := eq_true (by omega)
          obtain ⟨g, e1, x0, x1, x2, _⟩ := cl_at HRr.out j hjq
          cases e1
          cases hji : G[j].2.2 with
          | false =>
            as_aux_lemma =>
            have HO2 := Lib.hid (OutP.skip HO.out hjq hji)
            rw [hji] at x2
            clear hji
            generalize G[j].2.1 = y at *
            go_upto_region 14 with fail
            go_quiet (fail)
            go_wp2
            go_roundg q
            case measure => omega
            case rel => exact ⟨j + 1, o, by omega, rfl, congrArg (Value.int .i64) (by first | (unfold wrap64; omega) | omega), HO2, below_drewN'' HB.out _⟩
          | true =>
            rw [hji] at x2
            rcases OutP.cases HO.out with rfl | ⟨p, hp, hpj, rfl⟩
            · as_aux_lemma =>
              have HO2 := Lib.hid (OutP.first HO.out hjq hji)
              have d4 : decide ((-1 : Int) < 0) = true := by decide
              clear hji
              generalize G[j].2.1 = y at *
              go_upto_region 14 with fail
              go_quiet (fail)
              go_wp2
              go_roundg q
              case measure => omega
              case rel => exact ⟨j + 1, (j : Int), by omega, rfl, congrArg (Value.int .i64) (by first | (unfold wrap64; omega) | omega), HO2, below_drewN'' HB.out _⟩
            · have d4 : decide ((p : Int) < 0) = false := decide_eq_false (by omega)
              have p2 : (0 ≤ (p : Int)) = True := eq_true (by omega)
              have q2 : ((p : Int) < (G.length : Int)) = True := eq_true (by omega)
              obtain ⟨g', e2, z0, z1, z2, _⟩ := cl_at HRr.out p hp
              cases e2
              by_cases hl : G[j].2.1 < G[p].2.1
              · as_aux_lemma =>
                have HO2 := Lib.hid (OutP.less HO.out hp hjq hji hl)
                have d5 : decide (G[j].2.1 < G[p].2.1) = true := decide_eq_true hl
                clear hji hl
                generalize G[j].2.1 = y at *
                generalize G[p].2.1 = z at *
                go_upto_region 14 with fail
                go_quiet (fail)
                go_wp2
                go_roundg q
                case measure => omega
                case rel => exact ⟨j + 1, (j : Int), by omega, rfl, congrArg (Value.int .i64) (by first | (unfold wrap64; omega) | omega), HO2, below_drewN'' HB.out _⟩
              · as_aux_lemma =>
                have HO2 := Lib.hid (OutP.more HO.out hp hjq hl)
                have d5 : decide (G[j].2.1 < G[p].2.1) = false := decide_eq_false hl
                clear hji hl
                generalize G[j].2.1 = y at *
                generalize G[p].2.1 = z at *
                go_upto_region 14 with fail
                go_quiet (fail)
                go_wp2
                go_roundg q
                case measure => omega
                case rel => exact ⟨j + 1, (p : Int), by omega, rfl, congrArg (Value.int .i64) (by first | (unfold wrap64; omega) | omega), HO2, below_drewN'' HB.out _⟩
        · have hje : j = G.length := by omega
          have d3 : decide ((j : Int) < (G.length : Int)) = false := decide_eq_false (by omega)
          rcases OutP.cases HO.out with rfl | ⟨o, hp, hpj, rfl⟩
          · as_aux_lemma =>
            have hgf := OutP.none HN.out (by rw [← hje]; exact HO.out)
            have HV := Lib.hid (show touchV most G k now = (0, false, 8) from by rw [touchV, if_neg HBAD.out, if_neg HKN.out, if_neg (show ¬ (G.length : Int) < most from HROOM), hgf]; rfl)
            have HT := Lib.hid (show touchS most G k now = G from by rw [touchS, if_neg HBAD.out, if_neg HKN.out, if_neg (show ¬ (G.length : Int) < most from HROOM), hgf]; rfl)
            have d4 : decide ((-1 : Int) < 0) = true := by decide
            clear hgf
            go_wp2
            go_ret3
            exact ⟨by rw [HV.out]; rfl, G, H.out.below HB.out, by rw [HT.out], HSrt.out, R, below_grownBy HB.out _, hbase, Or.inl rfl⟩
          · as_aux_lemma =>
            have hgf := OutP.some HN.out HSrt.out hp (by rw [← hje]; exact HO.out)
            have HV := Lib.hid (show touchV most G k now = (G[o].1, true, 0) from by rw [touchV, if_neg HBAD.out, if_neg HKN.out, if_neg (show ¬ (G.length : Int) < most from HROOM), hgf]; rfl)
            have hcf := cut_filter HN.out.1 hp
            have HT := Lib.hid (show touchS most G k now = (k, now, false) :: (G.take o ++ G.drop (o + 1)) from by rw [touchS, if_neg HBAD.out, if_neg HKN.out, if_neg (show ¬ (G.length : Int) < most from HROOM), hgf, if_pos rfl, fullL, hcf])
            have HS1 := Lib.hid (show Srt (G.take o ++ G.drop (o + 1)) from by
              rw [hcf]
              exact List.Pairwise.sublist (List.Sublist.map _ List.filter_sublist) HSrt.out)
            have HK1 := Lib.hid (show tabF (G.take o ++ G.drop (o + 1)) k = none from by
              rw [hcf, tabF_del, HK.out]
              split <;> rfl)
            have d4 : decide ((o : Int) < 0) = false := decide_eq_false (by omega)
            have p1 : (0 ≤ (o : Int)) = True := eq_true (by omega)
            have q1 : ((o : Int) < (G.length : Int)) = True := eq_true (by omega)
            obtain ⟨g, e1, x0, x1, x2, _⟩ := cl_at HRr.out o hp
            clear x1 x2 hgf hcf
            have HRW := Lib.hid (Kd.R_below HR.out HB.out)
            have HRRW := Lib.hid ((HB.out.block R hRlt).trans HRR.out)
            have hRW : R < wr.heap.size := Nat.lt_of_lt_of_le hRlt HB.out.size
            have hbW : base ≤ wr.heap.size := Nat.le_trans hb HB.out.size
            cases e1
            generalize G[o].1 = y at *
            go_upto_region 19 with fail
            obtain ⟨A, hA⟩ : ∃ A : Option Addr, A = some ⟨g, 0, none⟩ := ⟨_, rfl⟩
            rw [← hA] at HRW HRRW y1
            rw [← hA]
            clear hA
            generalize wr = W at *
            have hfr : W.frozen? ⟨R, 1, none⟩ = false := blk_frozen HRRW.out 1
            have hci := (Kd.R_reads' HRW.out).2.1
            have hile : o ≤ G.length := by omega
            have HC1 := Lib.hid (show kCl.C W A o (G.take o) from by
              have := Kd.C_take (Kd.R_reads' HRW.out).2.2 hile
              rwa [List.length_take, Nat.min_eq_left hile] at this)
            have HC4 := Lib.hid (show kCl.C W (if c = o + 1 then A else A.map (·.add ((o + 1) * 3))) (G.length - (o + 1)) (G.drop (o + 1)) from by
              have := Kd.C_drop (Kd.R_reads' HRW.out).2.2 (show o + 1 ≤ G.length by omega) hci
              rwa [List.length_drop] at this)
            have s2 : ((o : Int) ≤ (c : Int)) = True := eq_true (by omega)
            have s3 : ((o : Int) ≤ (G.length : Int)) = True := eq_true (by omega)
            have s4 : ((o : Int) + 1 ≤ (c : Int)) = True := eq_true (by omega)
            have s5 : ((o : Int) + 1 ≤ (G.length : Int)) = True := eq_true (by omega)
            have s6 : (0 ≤ (o : Int) + 1) = True := eq_true (by omega)
            have sw : wrap64 ((o : Int) + 1) = (o : Int) + 1 := by unfold wrap64; omega
            have s7 : ((o : Int) + 1).toNat = o + 1 := Int.toNat_natCast (o + 1)
            have KS : RowKit.Hid (∀ W' : World, Below W.heap.size W W' → Below W.heap.size W W' ∧ W'.cell? ⟨R, 1, none⟩ = some (.slice A G.length c)) := fun W' hb => ⟨hb, pw_cell_below hb y1⟩
            have Z := Below.refl W.heap.size W
            refine start_ (n := 20) (S := (fun W' => Below W.heap.size W W' ∧ W'.cell? ⟨R, 1, none⟩ = some (.slice A G.length c))) (ds := [19]) #[false, false, false, false, false, false, false, false, false, false, false, false, false, false, false, false, false, false, false, false] (by kernel_rfl) rfl rfl (KS.out _ (below_drew1 Z)) (fun hHeld => ?_)
            refine with_tabW RefTouch.tab19 RefTouch.bits19 (fun HT_ HW_ => ?_)
            refine pure_ (i := 0) (N := some 107) (v := ?_) (a' := ?_) #[true, false, false, false, false, false, false, false, false, false, false, false, false, false, false, false, false, false, false, false] rfl rfl (any_of HT_.out (by kernel_rfl)) (fun _ _ _ h => h) (Or.inl ⟨by rfl, ?_⟩) ?_ ?_
            rotate_left
            · intro w'
              go_simp
              with_reducible rfl
            rotate_left
            · simp only [Act.put, List.setIfInBounds_toArray, List.set_cons_zero, List.set_cons_succ, i64_w, i32_w]
              rfl
            refine pure_ (i := 2) (N := some 109) (v := ?_) (a' := ?_) #[true, false, true, false, false, false, false, false, false, false, false, false, false, false, false, false, false, false, false, false] rfl rfl (any_of HT_.out (by kernel_rfl)) (fun _ _ _ h => h) (Or.inl ⟨by rfl, ?_⟩) ?_ ?_
            rotate_left
            · intro w'
              go_simp
              with_reducible rfl
            rotate_left
            · simp only [Act.put, List.setIfInBounds_toArray, List.set_cons_zero, List.set_cons_succ, i64_w, i32_w]
              rfl
            refine pure_ (i := 3) (N := some 110) (v := ?_) (a' := ?_) #[true, false, true, true, false, false, false, false, false, false, false, false, false, false, false, false, false, false, false, false] rfl rfl (any_of HT_.out (by kernel_rfl)) (fun _ _ _ h => h) (Or.inl ⟨by rfl, ?_⟩) ?_ ?_
            rotate_left
            · intro w'
              go_simp
              with_reducible rfl
            rotate_left
            · simp only [Act.put, List.setIfInBounds_toArray, List.set_cons_zero, List.set_cons_succ, i64_w, i32_w]
              rfl
            refine pure_ (i := 4) (N := some 111) (v := ?_) (a' := ?_) #[true, false, true, true, true, false, false, false, false, false, false, false, false, false, false, false, false, false, false, false] rfl rfl (any_of HT_.out (by kernel_rfl)) (fun _ _ _ h => h) (Or.inl ⟨by rfl, ?_⟩) ?_ ?_
            rotate_left
            · intro w'
              go_simp
              with_reducible rfl
            rotate_left
            · simp only [Act.put, List.setIfInBounds_toArray, List.set_cons_zero, List.set_cons_succ, i64_w, i32_w]
              rfl
            refine pure_ (i := 6) (N := some 113) (v := ?_) (a' := ?_) #[true, false, true, true, true, false, true, false, false, false, false, false, false, false, false, false, false, false, false, false] rfl rfl (any_of HT_.out (by kernel_rfl)) (fun _ _ _ h => h) (Or.inl ⟨by rfl, ?_⟩) ?_ ?_
            rotate_left
            · intro w'
              go_simp
              with_reducible rfl
            rotate_left
            · simp only [Act.put, List.setIfInBounds_toArray, List.set_cons_zero, List.set_cons_succ, i64_w, i32_w]
              rfl
            refine pure_ (i := 9) (N := some 116) (v := ?_) (a' := ?_) #[true, false, true, true, true, false, true, false, false, true, false, false, false, false, false, false, false, false, false, false] rfl rfl (any_of HT_.out (by kernel_rfl)) (fun _ _ _ h => h) (Or.inl ⟨by rfl, ?_⟩) ?_ ?_
            rotate_left
            · intro w'
              go_simp
              with_reducible rfl
            rotate_left
            · simp only [Act.put, List.setIfInBounds_toArray, List.set_cons_zero, List.set_cons_succ, i64_w, i32_w]
              rfl
            refine pure_ (i := 10) (N := some 117) (v := ?_) (a' := ?_) #[true, false, true, true, true, false, true, false, false, true, true, false, false, false, false, false, false, false, false, false] rfl rfl (any_of HT_.out (by kernel_rfl)) (fun _ _ _ h => h) (Or.inl ⟨by rfl, ?_⟩) ?_ ?_
            rotate_left
            · intro w'
              go_simp
              with_reducible rfl
            rotate_left
            · simp only [Act.put, List.setIfInBounds_toArray, List.set_cons_zero, List.set_cons_succ, i64_w, i32_w]
              rfl
            refine pure_ (i := 11) (N := some 118) (v := ?_) (a' := ?_) #[true, false, true, true, true, false, true, false, false, true, true, true, false, false, false, false, false, false, false, false] rfl rfl (any_of HT_.out (by kernel_rfl)) (fun _ _ _ h => h) (Or.inl ⟨by rfl, ?_⟩) ?_ ?_
            rotate_left
            · intro w'
              go_simp
              with_reducible rfl
            rotate_left
            · simp only [Act.put, List.setIfInBounds_toArray, List.set_cons_zero, List.set_cons_succ, i64_w, i32_w]
              rfl
            refine pure_ (i := 13) (N := some 120) (v := ?_) (a' := ?_) #[true, false, true, true, true, false, true, false, false, true, true, true, false, true, false, false, false, false, false, false] rfl rfl (any_of HT_.out (by kernel_rfl)) (fun _ _ _ h => h) (Or.inl ⟨by rfl, ?_⟩) ?_ ?_
            rotate_left
            · intro w'
              go_simp
              with_reducible rfl
            rotate_left
            · simp only [Act.put, List.setIfInBounds_toArray, List.set_cons_zero, List.set_cons_succ, i64_w, i32_w]
              rfl
            refine pure_ (i := 14) (N := some 121) (v := ?_) (a' := ?_) #[true, false, true, true, true, false, true, false, false, true, true, true, false, true, true, false, false, false, false, false] rfl rfl (any_of HT_.out (by kernel_rfl)) (fun _ _ _ h => h) (Or.inl ⟨by rfl, ?_⟩) ?_ ?_
            rotate_left
            · intro w'
              go_simp
              with_reducible rfl
            rotate_left
            · simp only [Act.put, List.setIfInBounds_toArray, List.set_cons_zero, List.set_cons_succ, i64_w, i32_w]
              rfl
            refine take_ (i := 5) (N := some 112) (v := ?_) (a' := ?_) #[true, false, true, true, true, true, true, false, false, true, true, true, false, true, true, false, false, false, false, false] rfl rfl (take_ofW HT_.out HW_.out (by kernel_rfl)) (fun _ _ _ h => h) (Or.inl ⟨by rfl, ?_⟩) hHeld ?_ ?_
            rotate_left
            · rintro w' ⟨s0, s1⟩
              go_simp
              with_reducible rfl
            rotate_left
            · simp only [Act.put, List.setIfInBounds_toArray, List.set_cons_zero, List.set_cons_succ, i64_w, i32_w]
              rfl
            refine pure_ (i := 7) (N := some 114) (v := ?_) (a' := ?_) #[true, false, true, true, true, true, true, true, false, true, true, true, false, true, true, false, false, false, false, false] rfl rfl (any_of HT_.out (by kernel_rfl)) (fun _ _ _ h => h) (Or.inl ⟨by rfl, ?_⟩) ?_ ?_
            rotate_left
            · intro w'
              go_simp
              with_reducible rfl
            rotate_left
            · simp only [Act.put, List.setIfInBounds_toArray, List.set_cons_zero, List.set_cons_succ, i64_w, i32_w]
              rfl
            refine take_ (i := 12) (N := some 119) (v := ?_) (a' := ?_) #[true, false, true, true, true, true, true, true, false, true, true, true, true, true, true, false, false, false, false, false] rfl rfl (take_ofW HT_.out HW_.out (by kernel_rfl)) (fun _ _ _ h => h) (Or.inl ⟨by rfl, ?_⟩) hHeld ?_ ?_
            rotate_left
            · rintro w' ⟨s0, s1⟩
              go_simp
              with_reducible rfl
            rotate_left
            · simp only [Act.put, List.setIfInBounds_toArray, List.set_cons_zero, List.set_cons_succ, i64_w, i32_w]
              rfl
            refine pure_ (i := 15) (N := some 122) (v := ?_) (a' := ?_) #[true, false, true, true, true, true, true, true, false, true, true, true, true, true, true, true, false, false, false, false] rfl rfl (any_of HT_.out (by kernel_rfl)) (fun _ _ _ h => h) (Or.inl ⟨by rfl, ?_⟩) ?_ ?_
            rotate_left
            · intro w'
              go_simp
              with_reducible rfl
            rotate_left
            · simp only [Act.put, List.setIfInBounds_toArray, List.set_cons_zero, List.set_cons_succ, i64_w, i32_w]
              rfl
            refine one_ (i := 1) (N := some 108) #[true, true, true, true, true, true, true, true, false, true, true, true, true, true, true, true, false, false, false, false] rfl rfl (one_of HT_.out (by kernel_rfl)) (by decide) (fun K hK => ?_)
            refine Kd.R_lit_step kCl (w0 := W.drew) (W.drew).heap.size 47 (by rfl) rfl (xs := []) (inner := []) (ok := fun _ => True) (okp := fun _ => False) ?run (Reps.none _ _) (fun _ _ => trivial) trivial (Below.refl _ _) (Nat.le_refl _) (by simp) ?_
            case run =>
              go_simp
              try rfl
            intro vE wE hRvE hbvE hgvE _
            have hlvE := hHeld.1.size
            have hBvE := below_then hHeld.1 hHeld.1.size hbvE
            refine hK.out _ _ (KS.out _ hBvE) (fun hHeld => ?_)
            clear hK K
            refine norm_ (a' := ?_) ?_ ?_
            rotate_left
            · show Act.put _ (some 108) _ = _
              simp only [Act.put, List.setIfInBounds_toArray, List.set_cons_zero, List.set_cons_succ, i64_w, i32_w]
              rfl
            refine one_ (i := 8) (N := some 115) #[true, true, true, true, true, true, true, true, true, true, true, true, true, true, true, true, false, false, false, false] rfl rfl (one_of HT_.out (by kernel_rfl)) (by decide) (fun K hK => ?_)
            refine Kd.R_append_rows_step kCl (w0 := W) W.heap.size (by rfl) (.tmp 108) (.tmp 114) 42 47 (.agg #[.int .i64 0, .int .i64 0, .bool false]) 24 rfl Try.underlying42 info_cl rfl (by decide) (by decide) vE [] (G.take o) A o c (fun _ => True) (fun _ => False) rfl rfl (Kd.R_lower hRvE hlvE) (Kd.C_below HC1.out hHeld.1) (fun _ _ h => h) (fun _ h => h.elim) (fun _ _ => trivial) hHeld.1 hHeld.1.size (cap1 hile hlen) ?_
            intro v2 w2 hR2 hb2 hg2 _
            refine hK.out _ _ (KS.out _ hb2) (fun hHeld => ?_)
            clear hK K
            refine norm_ (a' := ?_) ?_ ?_
            rotate_left
            · show Act.put _ (some 115) _ = _
              simp only [Act.put, List.setIfInBounds_toArray, List.set_cons_zero, List.set_cons_succ, i64_w, i32_w]
              rfl
            refine one_ (i := 16) (N := some 123) #[true, true, true, true, true, true, true, true, true, true, true, true, true, true, true, true, true, false, false, false] rfl rfl (one_of HT_.out (by kernel_rfl)) (by decide) (fun K hK => ?_)
            refine Kd.R_append_rows_step kCl (w0 := W) W.heap.size (by rfl) (.tmp 115) (.tmp 122) 42 47 (.agg #[.int .i64 0, .int .i64 0, .bool false]) 24 rfl Try.underlying42 info_cl rfl (by decide) (by decide) v2 (G.take o) (G.drop (o + 1)) _ (G.length - (o + 1)) (c - (o + 1)) (fun _ => True) (fun _ => False) rfl rfl hR2 (Kd.C_below HC4.out hHeld.1) (fun _ _ h => h) (fun _ h => h.elim) (fun _ _ => trivial) hHeld.1 hHeld.1.size (cap2 hile hlen) ?_
            intro v4 w4 hR4 hb4 hg4 _
            obtain ⟨A4, c4, rfl⟩ := Kd.R_slice hR4
            refine hK.out _ _ (KS.out _ hb4) (fun hHeld => ?_)
            clear hK K
            refine norm_ (a' := ?_) ?_ ?_
            rotate_left
            · show Act.put _ (some 123) _ = _
              simp only [Act.put, List.setIfInBounds_toArray, List.set_cons_zero, List.set_cons_succ, i64_w, i32_w]
              rfl
            refine pure_ (i := 17) (N := some 124) (v := ?_) (a' := ?_) #[true, true, true, true, true, true, true, true, true, true, true, true, true, true, true, true, true, true, false, false] rfl rfl (any_of HT_.out (by kernel_rfl)) (fun _ _ _ h => h) (Or.inl ⟨by rfl, ?_⟩) ?_ ?_
            rotate_left
            · intro w'
              go_simp
              with_reducible rfl
            rotate_left
            · simp only [Act.put, List.setIfInBounds_toArray, List.set_cons_zero, List.set_cons_succ, i64_w, i32_w]
              rfl
            refine pure_ (i := 18) (N := some 125) (v := ?_) (a' := ?_) #[true, true, true, true, true, true, true, true, true, true, true, true, true, true, true, true, true, true, true, false] rfl rfl (any_of HT_.out (by kernel_rfl)) (fun _ _ _ h => h) (Or.inl ⟨by rfl, ?_⟩) ?_ ?_
            rotate_left
            · intro w'
              go_simp
              with_reducible rfl
            rotate_left
            · simp only [Act.put, List.setIfInBounds_toArray, List.set_cons_zero, List.set_cons_succ, i64_w, i32_w]
              rfl
            have d4 := hHeld.2
            have f4 := (hHeld.1.frozen (p := ⟨R, 1, none⟩) hRW).trans hfr
            have HR4 := Lib.hid hR4
            have HB4 := Lib.hid hHeld.1
            refine last_ (i := 19) (N := none) #[true, true, true, true, true, true, true, true, true, true, true, true, true, true, true, true, true, true, true, true] rfl rfl (one_of HT_.out (by kernel_rfl)) (by decide) (fun K hK => ?_)
            refine skip_ (w1 := ?_) (by rfl) rfl ?_ ?_
            rotate_left
            · go_simp
              rfl
            refine hK.out _ _ ?_
            clear hK K
            refine done_ (done_of HT_.out (by kernel_rfl)) ?_
            clear hHeld
            obtain ⟨hRA, hgA⟩ := cut_end (len2 hp) HRRW HB HR4 HB4 hbase hRlt
            have HRA := Lib.hid hRA
            have hb3 : base ≤ (w4.setCell ⟨R, 1, none⟩ (.slice A4 (o + (G.length - (o + 1))) c4)).heap.size := Nat.le_trans hb hgA.size
            have hlen3 : (G.take o ++ G.drop (o + 1)).length ≤ 2000 := len3 hp hlen
            generalize w4.setCell ⟨R, 1, none⟩ (.slice A4 (o + (G.length - (o + 1))) c4) = w5 at *
            clear hRA d4 f4 HR4 HB4
            go_wp2_with (first
              | (go_at_call 27; (with_reducible refine (refadd_c R base most (G.take o ++ G.drop (o + 1)) k now false _ HRA.out hb3 hlen3).mono ?_); rintro e w6 ⟨rfl, hA⟩))
            all_goals
              go_ret3
              exact ⟨by rw [HV.out]; rfl, touch_of_add HS1.out HK1.out hA hgA hbase HT.out⟩
end Go.Proofs.Ytafndajnncfpkaa.Sd
