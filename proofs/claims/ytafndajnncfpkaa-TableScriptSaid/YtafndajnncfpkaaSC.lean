/- The document's table (ostiaryref20): add. -/
import Derived.Lib.Hide
import Derived.Deep.RegionHeld3
import Derived.BigQuiet
import Derived.Test.YtafndajnncfpkaaWTab
import Derived.Test.YtafndajnncfpkaaSB
namespace Go.Proofs.Ytafndajnncfpkaa.Sc
open Go Go.RowKit Go.Maps Go.Sort Go.Shelf Go.Proofs.YtafndajnncfpkaaW.PrintWords Go.Proofs.YtafndajnncfpkaaW.PrintLast Go.Proofs.YtafndajnncfpkaaW.PrintMore Go.Proofs.Ytafndajnncfpkaa.Mp Go.Proofs.Ytafndajnncfpkaa.Tm Go.Proofs.Ytafndajnncfpkaa.Tb Go.Proofs.Ytafndajnncfpkaa.Tc Go.Proofs.Ytafndajnncfpkaa.Ta Go.Proofs.Ytafndajnncfpkaa.Ti Go.Proofs.Ytafndajnncfpkaa.Tg Go.Proofs.Ytafndajnncfpkaa.Tt Go.Proofs.Ytafndajnncfpkaa.Ts Go.Proofs.Ytafndajnncfpkaa.Tz Go.Proofs.Ytafndajnncfpkaa.Tq Go.Proofs.Ytafndajnncfpkaa.Tv Go.Proofs.Ytafndajnncfpkaa.Tx Go.Proofs.Ytafndajnncfpkaa.Sa Go.Proofs.Ytafndajnncfpkaa.Sb
set_option linter.unusedVariables false
set_option linter.unusedSimpArgs false
theorem empty_row (W : World) (base : Nat) (hb : base ≤ W.heap.size) : Kd.R kCl 47 (W.alloc (.cells #[] 47)) base (fun _ => True) (.slice (some ⟨W.heap.size, 0, none⟩) 0 0) [] :=
  ⟨fun _ _ => trivial, [], by have := World.ownsRow_lit (base := base) (e := 47) (size := 3) W #[] 0 hb (by simp [maxLen]) rfl; exact this, by simp, fun j p hj => by simp at hj⟩
theorem one_row {w : World} {b : Nat} {k a : Int} {is : Bool} (h : w.heap[b]? = some (.cells #[.int .i64 k, .int .i64 a, .bool is] 47 (0, 0))) : kCl.C w (some ⟨b, 0, none⟩) 1 [(k, a, is)] := by
  refine ⟨rfl, by omega, fun _ => ⟨_, rfl, fun j p hj => ?_⟩⟩
  cases j with
  | succ j => cases hj
  | zero =>
    cases hj
    refine ⟨[.int .i64 k, .int .i64 a, .bool is], rfl, ⟨[.int .i64 k], _, rfl, rfl, [.int .i64 a], _, rfl, rfl, rfl⟩, fun i u hu => ?_⟩
    match i, hu with
    | 0, hu => cases hu; simp [World.cell?, h, Addr.add]
    | 1, hu => cases hu; simp [World.cell?, h, Addr.add]
    | 2, hu => cases hu; simp [World.cell?, h, Addr.add]
    | i + 3, hu => cases hu
theorem info_cl : (Try.prog.info? 47).map (fun i => (i.zero, i.size, i.bytes)) = some (some (.agg #[.int .i64 0, .int .i64 0, .bool false]), kCl.sz, 24) := by kernel_rfl
theorem one_reps (w : World) (base : Nat) (ok : Nat → Prop) (k a : Int) (is : Bool) : Reps (kCl.M w base ok) kCl.sz [(k, a, is)] [.int .i64 k, .int .i64 a, .bool is] := by
  refine ⟨rfl, fun j p hj => ?_⟩
  cases j with
  | succ j => cases hj
  | zero =>
    cases hj
    exact kCl_mk _ _ _ _
/-- What add leaves. -/
def AddP (w w' : World) (R base : Nat) (most : Int) (G : List Cl) (k a : Int) (is : Bool) : Prop := ∃ i, ∃ hi : i ≤ G.length, (∀ j, (h : j < G.length) → j < i → G[j].1 < k) ∧ (∀ h : i < G.length, k ≤ G[i].1) ∧ RefAt w' R base most (G.take i ++ [(k, a, is)] ++ G.drop i) ∧ w.grownBy w' (some R)
theorem add_end {w W w4 : World} {R base : Nat} {most k a : Int} {is : Bool} {G : List Cl} {A A4 : Option Addr} {c n4 n5 c4 i : Nat} (h5 : n5 = (G.take i ++ [(k, a, is)] ++ G.drop i).length) (HRRW : RowKit.Hid (W.heap[R]? = some (.cells #[.int .i64 most, .slice A G.length c] 44 (0, 0)))) (HBW : RowKit.Hid (Below w.heap.size w W)) (HR4 : RowKit.Hid (Kd.R kCl 47 w4 W.heap.size (fun _ => True) (.slice A4 n4 c4) (G.take i ++ [(k, a, is)] ++ G.drop i))) (HB4 : RowKit.Hid (Below W.heap.size W w4)) (hbase : base ≤ R) (hRlt : R < w.heap.size) (hile : i ≤ G.length)
    (HS : RowKit.Hid (∀ j, (h : j < G.length) → j < i → G[j].1 < k)) (HX : RowKit.Hid (∀ h : i < G.length, k ≤ G[i].1)) : AddP w (w4.setCell ⟨R, 1, none⟩ (.slice A4 n5 c4)) R base most G k a is := by
  have hRW : R < W.heap.size := (Array.getElem?_eq_some_iff.1 HRRW.out).1
  have hR4 := (HB4.out.block R hRW).trans HRRW.out
  have hn := (Kd.R_reads' HR4.out).1
  have h54 : n5 = n4 := h5.trans hn.symm
  subst h54
  have hw4 : Below w.heap.size w w4 := below_then HBW.out HBW.out.size HB4.out
  refine ⟨i, hile, HS.out, HX.out, ⟨A4, c4, ?_, hbase, ?_⟩, ?_⟩
  · rw [← hn]
    simpa using blk_set hR4 1 (.slice A4 n5 c4)
  · rw [← hn]
    exact Kd.R_lower (Kd.R_set HR4.out hR4 (by decide) 1 _) (by omega)
  · refine (below_grownBy hw4 (some R)).trans ⟨rfl, rfl, rfl, by simp, fun j hj hne => ?_⟩
    exact Below.heap_setCell _ _ _ _ (by simpa using hne)
def RefAdd.T4 : Bool × List (List Nat × List Nat) := (true, [([], []), ([], []), ([], []), ([2], [2]), ([3], [3]), ([4], [4]), ([], []), ([5, 6], [5, 6]), ([1, 7], [1, 7]), ([], []), ([9], [9]), ([8, 10, 8], [8, 10]), ([], []), ([12], [12]), ([13], [13]), ([14], [14]), ([], []), ([15, 16], [15, 16]), ([11, 17, 11], [11, 17]), ([0, 0, 1, 2, 3, 4, 5, 6, 7, 8, 9, 10, 11, 12, 13, 14, 15, 16, 17, 18], [0]), ([19, 0, 1, 2, 3, 4, 5, 6, 7, 8, 9, 10, 11, 12, 13, 14, 15, 16, 17, 18], [19]), ([20, 18, 18, 0, 1, 2, 3, 4, 5, 6, 7, 8, 9, 10, 11, 12, 13, 14, 15, 16, 17, 18], [18, 20])])
def RefAdd.B4 : List Nat := [0, 0, 0, 4, 12, 28, 0, 124, 254, 0, 512, 2046, 0, 4096, 12288, 28672, 0, 126976, 262142, 524287, 1048575, 2097151]
theorem RefAdd.tab4 : rtab .any (opsOf Try.f27 4) = RefAdd.T4 := by kernel_rfl
theorem RefAdd.bits4 : waitsOk RefAdd.T4.2 RefAdd.B4 = true := by kernel_rfl
set_option maxRecDepth 100000 in
set_option maxHeartbeats 4000000 in
theorem refadd_c (R base : Nat) (most : Int) (G : List Cl) (k a : Int) (is : Bool) (w : World) (h : RefAt w R base most G) (hb : base ≤ w.heap.size) (hlen : G.length ≤ 2000) : Calls Try.prog 27 #[.pointer (some ⟨R, 0, none⟩), .agg #[.int .i64 k, .int .i64 a, .bool is]] w fun e w' => e = .returned (.tuple #[]) ∧ AddP w w' R base most G k a is := by
  have H := Lib.hid h
  obtain ⟨A, c, hR, hbase, hrow⟩ := h
  have HR := Lib.hid hrow
  have HRR := Lib.hid hR
  have hRlt := (Array.getElem?_eq_some_iff.1 hR).1
  clear hrow hR
  go_enter Try.func27, Try.ntmps27
  go_wp2
  have hq := World.alloc_heap_new w (.cells #[.int .i64 k, .int .i64 a, .bool is] 47)
  have hB1 := (Below.refl w.heap.size w).alloc (Nat.le_refl _) (.cells #[.int .i64 k, .int .i64 a, .bool is] 47)
  generalize w.alloc (.cells #[.int .i64 k, .int .i64 a, .bool is] 47) = w1 at *
  have hR1 := (hB1.block R hRlt).trans HRR.out
  have c1 : w1.cell? ⟨R, 1, none⟩ = some (.slice A G.length c) := by simp [World.cell?, hR1]
  have y0 : w1.cell? ⟨w.heap.size, 0, none⟩ = some (.int .i64 k) := by simp [World.cell?, hq]
  have y1 : w1.cell? ⟨w.heap.size, 1, none⟩ = some (.int .i64 a) := by simp [World.cell?, hq]
  have y2 : w1.cell? ⟨w.heap.size, 2, none⟩ = some (.bool is) := by simp [World.cell?, hq]
  have HR1 := Lib.hid (Kd.R_below HR.out hB1)
  have HRR1 := Lib.hid hR1
  have HB1 := Lib.hid hB1
  clear hR1 hq hB1
  go_loopg [4] G.length (fun kq v wr => ∃ i : Nat, i + kq = G.length ∧ v = .int .i64 (i : Int) ∧ RowKit.Hid (Below w1.heap.size w1 wr) ∧ RowKit.Hid (∀ j, (h : j < G.length) → j < i → G[j].1 < k))
  case atStart => exact ⟨0, by omega, rfl, Lib.hid (Below.refl _ _), Lib.hid (fun j _ h => absurd h (by omega))⟩
  case round =>
    obtain ⟨i, hi, rfl, HBr, HS⟩ := hrel
    have c1' := pw_cell_below HBr.out c1
    have y0' := pw_cell_below HBr.out y0
    have y1' := pw_cell_below HBr.out y1
    have y2' := pw_cell_below HBr.out y2
    have HRr := Lib.hid (Kd.R_below HR1.out HBr.out)
    have HRRr := Lib.hid ((HBr.out.block R (Array.getElem?_eq_some_iff.1 HRR1.out).1).trans HRR1.out)
    clear c1 y0 y1 y2
    by_cases hcc : ∃ h : i < G.length, G[i].1 < k
    · obtain ⟨hiq, hx⟩ := hcc
      obtain ⟨q, rfl⟩ : ∃ q, gk = q + 1 := ⟨gk - 1, by omega⟩
      have d1 : decide ((i : Int) < (G.length : Int)) = true := decide_eq_true (by omega)
      have p1 : (0 ≤ (i : Int)) = True := eq_true (by omega)
      have q1 : ((i : Int) < (G.length : Int)) = True := eq_true (by omega)
      obtain ⟨g, e1, x0, x1, x2, _⟩ := cl_at HRr.out i hiq
      cases e1
      have dx : decide (G[i].1 < k) = true := decide_eq_true hx
      have HX := Lib.hid (show ∀ j, (h : j < G.length) → j < i + 1 → G[j].1 < k from fun j h hj => by
        by_cases hji : j = i
        · subst hji
          exact hx
        · exact HS.out j h (by omega))
      clear hx
      generalize G[i].1 = y at *
      go_upto_region 2 with fail
      go_quiet (fail)
      go_wp2
      go_roundg q
      case measure => omega
      case rel => exact ⟨i + 1, by omega, congrArg (Value.int .i64) (by first | (unfold wrap64; omega) | omega), Lib.hid (below_drewN'' HBr.out _), HX⟩
    · have HX := Lib.hid (show ∀ h : i < G.length, k ≤ G[i].1 from fun h => Int.not_lt.1 fun hx => hcc ⟨h, hx⟩)
      have hile : i ≤ G.length := by omega
      clear hcc
      go_upto_region 2 with fail
      go_cut [24] (fun v W => v = .bool false ∧ RowKit.Hid (Below wr.heap.size wr W))
      case first =>
        by_cases hiq : i < G.length
        · have d1 : decide ((i : Int) < (G.length : Int)) = true := decide_eq_true (by omega)
          have p1 : (0 ≤ (i : Int)) = True := eq_true (by omega)
          have q1 : ((i : Int) < (G.length : Int)) = True := eq_true (by omega)
          obtain ⟨g, e1, x0, x1, x2, _⟩ := cl_at HRr.out i hiq
          cases e1
          have dx : decide (G[i].1 < k) = false := decide_eq_false (Int.not_lt.2 (HX.out hiq))
          generalize G[i].1 = y at *
          go_quiet (fail)
          go_wp2_with fail
          go_meet
          exact ⟨rfl, below_drewN'' (Below.refl _ _) _⟩
        · have d1 : decide ((i : Int) < (G.length : Int)) = false := decide_eq_false (by omega)
          go_quiet (fail)
          go_wp2_with fail
          go_meet
          exact ⟨rfl, below_drewN'' (Below.refl _ _) _⟩
      case rest =>
        obtain ⟨rfl, HBc⟩ := hcut
        have HRW := Lib.hid (Kd.R_below HRr.out HBc.out)
        have HRRW := Lib.hid ((HBc.out.block R (Array.getElem?_eq_some_iff.1 HRRr.out).1).trans HRRr.out)
        have HBW := Lib.hid (below_then (below_then HB1.out HB1.out.size HBr.out) (Nat.le_trans HB1.out.size HBr.out.size) HBc.out)
        have z1 := pw_cell_below HBc.out c1'
        have z2 := pw_cell_below HBc.out y0'
        have z3 := pw_cell_below HBc.out y1'
        have z4 := pw_cell_below HBc.out y2'
        clear c1' y0' y1' y2' HRr HRRr HBr HBc HR1 HRR1 HB1
        generalize wc = W at *
        have hfr : W.frozen? ⟨R, 1, none⟩ = false := blk_frozen HRRW.out 1
        have hRW : R < W.heap.size := (Array.getElem?_eq_some_iff.1 HRRW.out).1
        have hci := (Kd.R_reads' HRW.out).2.1
        have HC1 := Lib.hid (show kCl.C W A i (G.take i) from by
          have := Kd.C_take (Kd.R_reads' HRW.out).2.2 hile
          rwa [List.length_take, Nat.min_eq_left hile] at this)
        have HC4 := Lib.hid (show kCl.C W (if c = i then A else A.map (·.add (i * 3))) (G.length - i) (G.drop i) from by
          have := Kd.C_drop (Kd.R_reads' HRW.out).2.2 hile hci
          rwa [List.length_drop] at this)
        have s1 : (0 ≤ (i : Int)) = True := eq_true (by omega)
        have s2 : ((i : Int) ≤ (c : Int)) = True := eq_true (by omega)
        have s3 : ((i : Int) ≤ (G.length : Int)) = True := eq_true (by omega)
        have KS : RowKit.Hid (∀ W' : World, Below W.heap.size W W' → Below W.heap.size W W' ∧ W'.cell? ⟨R, 1, none⟩ = some (.slice A G.length c) ∧ W'.cell? ⟨w.heap.size, 0, none⟩ = some (.int .i64 k) ∧ W'.cell? ⟨w.heap.size, 1, none⟩ = some (.int .i64 a) ∧ W'.cell? ⟨w.heap.size, 2, none⟩ = some (.bool is)) := fun W' hb => ⟨hb, pw_cell_below hb z1, pw_cell_below hb z2, pw_cell_below hb z3, pw_cell_below hb z4⟩
        have Z := Below.refl W.heap.size W
        go_upto_region 4 with fail
        refine start_ (n := 22) (S := (fun W' => Below W.heap.size W W' ∧ W'.cell? ⟨R, 1, none⟩ = some (.slice A G.length c) ∧ W'.cell? ⟨w.heap.size, 0, none⟩ = some (.int .i64 k) ∧ W'.cell? ⟨w.heap.size, 1, none⟩ = some (.int .i64 a) ∧ W'.cell? ⟨w.heap.size, 2, none⟩ = some (.bool is))) (ds := [21]) #[false, false, false, false, false, false, false, false, false, false, false, false, false, false, false, false, false, false, false, false, false, false] (by kernel_rfl) rfl rfl (KS.out _ (below_drew1 Z)) (fun hHeld => ?_)
        refine with_tabW RefAdd.tab4 RefAdd.bits4 (fun HT_ HW_ => ?_)
        refine pure_ (i := 0) (N := some 27) (v := ?_) (a' := ?_) #[true, false, false, false, false, false, false, false, false, false, false, false, false, false, false, false, false, false, false, false, false, false] rfl rfl (any_of HT_.out (by kernel_rfl)) (fun _ _ _ h => h) (Or.inl ⟨by rfl, ?_⟩) ?_ ?_
        rotate_left
        · intro w'
          go_simp
          with_reducible rfl
        rotate_left
        · simp only [Act.put, List.setIfInBounds_toArray, List.set_cons_zero, List.set_cons_succ, i64_w, i32_w]
          rfl
        refine pure_ (i := 2) (N := some 29) (v := ?_) (a' := ?_) #[true, false, true, false, false, false, false, false, false, false, false, false, false, false, false, false, false, false, false, false, false, false] rfl rfl (any_of HT_.out (by kernel_rfl)) (fun _ _ _ h => h) (Or.inl ⟨by rfl, ?_⟩) ?_ ?_
        rotate_left
        · intro w'
          go_simp
          with_reducible rfl
        rotate_left
        · simp only [Act.put, List.setIfInBounds_toArray, List.set_cons_zero, List.set_cons_succ, i64_w, i32_w]
          rfl
        refine pure_ (i := 3) (N := some 30) (v := ?_) (a' := ?_) #[true, false, true, true, false, false, false, false, false, false, false, false, false, false, false, false, false, false, false, false, false, false] rfl rfl (any_of HT_.out (by kernel_rfl)) (fun _ _ _ h => h) (Or.inl ⟨by rfl, ?_⟩) ?_ ?_
        rotate_left
        · intro w'
          go_simp
          with_reducible rfl
        rotate_left
        · simp only [Act.put, List.setIfInBounds_toArray, List.set_cons_zero, List.set_cons_succ, i64_w, i32_w]
          rfl
        refine pure_ (i := 4) (N := some 31) (v := ?_) (a' := ?_) #[true, false, true, true, true, false, false, false, false, false, false, false, false, false, false, false, false, false, false, false, false, false] rfl rfl (any_of HT_.out (by kernel_rfl)) (fun _ _ _ h => h) (Or.inl ⟨by rfl, ?_⟩) ?_ ?_
        rotate_left
        · intro w'
          go_simp
          with_reducible rfl
        rotate_left
        · simp only [Act.put, List.setIfInBounds_toArray, List.set_cons_zero, List.set_cons_succ, i64_w, i32_w]
          rfl
        refine pure_ (i := 6) (N := some 33) (v := ?_) (a' := ?_) #[true, false, true, true, true, false, true, false, false, false, false, false, false, false, false, false, false, false, false, false, false, false] rfl rfl (any_of HT_.out (by kernel_rfl)) (fun _ _ _ h => h) (Or.inl ⟨by rfl, ?_⟩) ?_ ?_
        rotate_left
        · intro w'
          go_simp
          with_reducible rfl
        rotate_left
        · simp only [Act.put, List.setIfInBounds_toArray, List.set_cons_zero, List.set_cons_succ, i64_w, i32_w]
          rfl
        refine pure_ (i := 12) (N := some 39) (v := ?_) (a' := ?_) #[true, false, true, true, true, false, true, false, false, false, false, false, true, false, false, false, false, false, false, false, false, false] rfl rfl (any_of HT_.out (by kernel_rfl)) (fun _ _ _ h => h) (Or.inl ⟨by rfl, ?_⟩) ?_ ?_
        rotate_left
        · intro w'
          go_simp
          with_reducible rfl
        rotate_left
        · simp only [Act.put, List.setIfInBounds_toArray, List.set_cons_zero, List.set_cons_succ, i64_w, i32_w]
          rfl
        refine pure_ (i := 13) (N := some 40) (v := ?_) (a' := ?_) #[true, false, true, true, true, false, true, false, false, false, false, false, true, true, false, false, false, false, false, false, false, false] rfl rfl (any_of HT_.out (by kernel_rfl)) (fun _ _ _ h => h) (Or.inl ⟨by rfl, ?_⟩) ?_ ?_
        rotate_left
        · intro w'
          go_simp
          with_reducible rfl
        rotate_left
        · simp only [Act.put, List.setIfInBounds_toArray, List.set_cons_zero, List.set_cons_succ, i64_w, i32_w]
          rfl
        refine pure_ (i := 14) (N := some 41) (v := ?_) (a' := ?_) #[true, false, true, true, true, false, true, false, false, false, false, false, true, true, true, false, false, false, false, false, false, false] rfl rfl (any_of HT_.out (by kernel_rfl)) (fun _ _ _ h => h) (Or.inl ⟨by rfl, ?_⟩) ?_ ?_
        rotate_left
        · intro w'
          go_simp
          with_reducible rfl
        rotate_left
        · simp only [Act.put, List.setIfInBounds_toArray, List.set_cons_zero, List.set_cons_succ, i64_w, i32_w]
          rfl
        refine pure_ (i := 16) (N := some 43) (v := ?_) (a' := ?_) #[true, false, true, true, true, false, true, false, false, false, false, false, true, true, true, false, true, false, false, false, false, false] rfl rfl (any_of HT_.out (by kernel_rfl)) (fun _ _ _ h => h) (Or.inl ⟨by rfl, ?_⟩) ?_ ?_
        rotate_left
        · intro w'
          go_simp
          with_reducible rfl
        rotate_left
        · simp only [Act.put, List.setIfInBounds_toArray, List.set_cons_zero, List.set_cons_succ, i64_w, i32_w]
          rfl
        refine take_ (i := 5) (N := some 32) (v := ?_) (a' := ?_) #[true, false, true, true, true, true, true, false, false, false, false, false, true, true, true, false, true, false, false, false, false, false] rfl rfl (take_ofW HT_.out HW_.out (by kernel_rfl)) (fun _ _ _ h => h) (Or.inl ⟨by rfl, ?_⟩) hHeld ?_ ?_
        rotate_left
        · rintro w' ⟨s0, s1, s2, s3, s4⟩
          go_simp
          with_reducible rfl
        rotate_left
        · simp only [Act.put, List.setIfInBounds_toArray, List.set_cons_zero, List.set_cons_succ, i64_w, i32_w]
          rfl
        refine pure_ (i := 7) (N := some 34) (v := ?_) (a' := ?_) #[true, false, true, true, true, true, true, true, false, false, false, false, true, true, true, false, true, false, false, false, false, false] rfl rfl (any_of HT_.out (by kernel_rfl)) (fun _ _ _ h => h) (Or.inl ⟨by rfl, ?_⟩) ?_ ?_
        rotate_left
        · intro w'
          go_simp
          with_reducible rfl
        rotate_left
        · simp only [Act.put, List.setIfInBounds_toArray, List.set_cons_zero, List.set_cons_succ, i64_w, i32_w]
          rfl
        refine take_ (i := 9) (N := some 36) (v := ?_) (a' := ?_) #[true, false, true, true, true, true, true, true, false, true, false, false, true, true, true, false, true, false, false, false, false, false] rfl rfl (take_ofW HT_.out HW_.out (by kernel_rfl)) (fun _ _ _ h => h) (Or.inl ⟨by rfl, ?_⟩) hHeld ?_ ?_
        rotate_left
        · rintro w' ⟨s0, s1, s2, s3, s4⟩
          go_simp
          with_reducible rfl
        rotate_left
        · simp only [Act.put, List.setIfInBounds_toArray, List.set_cons_zero, List.set_cons_succ, i64_w, i32_w]
          rfl
        refine take_ (i := 15) (N := some 42) (v := ?_) (a' := ?_) #[true, false, true, true, true, true, true, true, false, true, false, false, true, true, true, true, true, false, false, false, false, false] rfl rfl (take_ofW HT_.out HW_.out (by kernel_rfl)) (fun _ _ _ h => h) (Or.inl ⟨by rfl, ?_⟩) hHeld ?_ ?_
        rotate_left
        · rintro w' ⟨s0, s1, s2, s3, s4⟩
          go_simp
          with_reducible rfl
        rotate_left
        · simp only [Act.put, List.setIfInBounds_toArray, List.set_cons_zero, List.set_cons_succ, i64_w, i32_w]
          rfl
        refine pure_ (i := 17) (N := some 44) (v := ?_) (a' := ?_) #[true, false, true, true, true, true, true, true, false, true, false, false, true, true, true, true, true, true, false, false, false, false] rfl rfl (any_of HT_.out (by kernel_rfl)) (fun _ _ _ h => h) (Or.inl ⟨by rfl, ?_⟩) ?_ ?_
        rotate_left
        · intro w'
          go_simp
          with_reducible rfl
        rotate_left
        · simp only [Act.put, List.setIfInBounds_toArray, List.set_cons_zero, List.set_cons_succ, i64_w, i32_w]
          rfl
        refine two_ (i := 1) (j := 10) (Ni := some 28) (Nj := some 37) #[true, true, true, true, true, true, true, true, false, true, false, false, true, true, true, true, true, true, false, false, false, false] #[true, false, true, true, true, true, true, true, false, true, true, false, true, true, true, true, true, true, false, false, false, false] rfl rfl rfl rfl (two_of HT_.out (by kernel_rfl)) (by decide) (by decide) (fun K hK => ?_) (fun K hK => ?_)
        · refine Kd.R_lit_step kCl (w0 := W.drew) (W.drew).heap.size 47 (by rfl) rfl (xs := []) (inner := []) (ok := fun _ => True) (okp := fun _ => False) ?run (Reps.none _ _) (fun _ _ => trivial) trivial (Below.refl _ _) (Nat.le_refl _) (by simp) ?_
          case run =>
            go_simp
            try rfl
          intro vE wE hRvE hbvE hgvE _
          have hlvE := hHeld.1.size
          have hBvE := below_then hHeld.1 hHeld.1.size hbvE
          refine hK.out _ _ (KS.out _ hBvE) (fun hHeld => ?_)
          clear hK K
          refine norm_ (a' := ?_) ?_ ?_
          rotate_left
          · show Act.put _ (some 28) _ = _
            simp only [Act.put, List.setIfInBounds_toArray, List.set_cons_zero, List.set_cons_succ, i64_w, i32_w]
            rfl
          refine two_ (i := 8) (j := 10) (Ni := some 35) (Nj := some 37) #[true, true, true, true, true, true, true, true, true, true, false, false, true, true, true, true, true, true, false, false, false, false] #[true, true, true, true, true, true, true, true, false, true, true, false, true, true, true, true, true, true, false, false, false, false] rfl rfl rfl rfl (two_of HT_.out (by kernel_rfl)) (by decide) (by decide) (fun K hK => ?_) (fun K hK => ?_)
          · refine Kd.R_append_rows_step kCl (w0 := W) W.heap.size (by rfl) (.tmp 28) (.tmp 34) 42 47 (.agg #[.int .i64 0, .int .i64 0, .bool false]) 24 rfl Try.underlying42 info_cl rfl (by decide) (by decide) vE [] (G.take i) A i c (fun _ => True) (fun _ => False) rfl rfl (Kd.R_lower hRvE hlvE) (Kd.C_below HC1.out hHeld.1) (fun _ _ h => h) (fun _ h => h.elim) (fun _ _ => trivial) hHeld.1 hHeld.1.size ?aL ?_
            case aL =>
              simp only [List.length_nil, List.length_append, List.length_singleton, List.length_take, List.length_drop, Nat.zero_add]
              omega
            intro v2 w2 hR2 hb2 hg2 _
            refine hK.out _ _ (KS.out _ hb2) (fun hHeld => ?_)
            clear hK K
            refine norm_ (a' := ?_) ?_ ?_
            rotate_left
            · show Act.put _ (some 35) _ = _
              simp only [Act.put, List.setIfInBounds_toArray, List.set_cons_zero, List.set_cons_succ, i64_w, i32_w]
              rfl
            refine one_ (i := 10) (N := some 37) #[true, true, true, true, true, true, true, true, true, true, true, false, true, true, true, true, true, true, false, false, false, false] rfl rfl (one_of HT_.out (by kernel_rfl)) (by decide) (fun K hK => ?_)
            have hR2 := hR2
            refine Kd.R_lit_step kCl (w0 := w2) (w2).heap.size 47 (by rfl) rfl (xs := [(k, a, is)]) (inner := [.int .i64 k, .int .i64 a, .bool is]) (ok := fun _ => True) (okp := fun _ => False) ?run (one_reps _ _ _ _ _ _) (fun _ _ => trivial) trivial (Below.refl _ _) (Nat.le_refl _) (by simp) ?_
            case run =>
              go_simp
              try rfl
            intro vC wC hRvC hbvC hgvC _
            have hlvC := hHeld.1.size
            have hBvC := below_then hHeld.1 hHeld.1.size hbvC
            refine hK.out _ _ (KS.out _ hBvC) (fun hHeld => ?_)
            have hR2 := Kd.R_grown hR2 hgvC (fun k _ e => by cases e)
            have hC2 := hRvC
            clear hK K
            refine norm_ (a' := ?_) ?_ ?_
            rotate_left
            · show Act.put _ (some 37) _ = _
              simp only [Act.put, List.setIfInBounds_toArray, List.set_cons_zero, List.set_cons_succ, i64_w, i32_w]
              rfl
            refine one_ (i := 11) (N := some 38) #[true, true, true, true, true, true, true, true, true, true, true, true, true, true, true, true, true, true, false, false, false, false] rfl rfl (one_of HT_.out (by kernel_rfl)) (by decide) (fun K hK => ?_)
            obtain ⟨AC, cC, rfl⟩ := Kd.R_slice hC2
            refine Kd.R_append_rows_step kCl (w0 := W) W.heap.size (by rfl) (.tmp 35) (.tmp 37) 42 47 (.agg #[.int .i64 0, .int .i64 0, .bool false]) 24 rfl Try.underlying42 info_cl rfl (by decide) (by decide) v2 (G.take i) [(k, a, is)] AC 1 cC (fun _ => True) (fun _ => False) rfl rfl hR2 (Kd.R_reads' hC2).2.2 (fun _ _ h => h) (fun _ h => h.elim) (fun _ _ => trivial) hHeld.1 hHeld.1.size ?aL ?_
            case aL =>
              simp only [List.length_nil, List.length_append, List.length_singleton, List.length_take, List.length_drop, Nat.zero_add]
              omega
            intro v3 w3 hR3 hb3 hg3 _
            refine hK.out _ _ (KS.out _ hb3) (fun hHeld => ?_)
            clear hK K
            refine norm_ (a' := ?_) ?_ ?_
            rotate_left
            · show Act.put _ (some 38) _ = _
              simp only [Act.put, List.setIfInBounds_toArray, List.set_cons_zero, List.set_cons_succ, i64_w, i32_w]
              rfl
            refine one_ (i := 18) (N := some 45) #[true, true, true, true, true, true, true, true, true, true, true, true, true, true, true, true, true, true, true, false, false, false] rfl rfl (one_of HT_.out (by kernel_rfl)) (by decide) (fun K hK => ?_)
            refine Kd.R_append_rows_step kCl (w0 := W) W.heap.size (by rfl) (.tmp 38) (.tmp 44) 42 47 (.agg #[.int .i64 0, .int .i64 0, .bool false]) 24 rfl Try.underlying42 info_cl rfl (by decide) (by decide) v3 (G.take i ++ [(k, a, is)]) (G.drop i) _ (G.length - i) (c - i) (fun _ => True) (fun _ => False) rfl rfl hR3 (Kd.C_below HC4.out hHeld.1) (fun _ _ h => h) (fun _ h => h.elim) (fun _ _ => trivial) hHeld.1 hHeld.1.size ?aL ?_
            case aL =>
              simp only [List.length_nil, List.length_append, List.length_singleton, List.length_take, List.length_drop, Nat.zero_add]
              omega
            intro v4 w4 hR4 hb4 hg4 _
            obtain ⟨A4, c4, rfl⟩ := Kd.R_slice hR4
            refine hK.out _ _ (KS.out _ hb4) (fun hHeld => ?_)
            clear hK K
            refine norm_ (a' := ?_) ?_ ?_
            rotate_left
            · show Act.put _ (some 45) _ = _
              simp only [Act.put, List.setIfInBounds_toArray, List.set_cons_zero, List.set_cons_succ, i64_w, i32_w]
              rfl
            refine pure_ (i := 19) (N := some 46) (v := ?_) (a' := ?_) #[true, true, true, true, true, true, true, true, true, true, true, true, true, true, true, true, true, true, true, true, false, false] rfl rfl (any_of HT_.out (by kernel_rfl)) (fun _ _ _ h => h) (Or.inl ⟨by rfl, ?_⟩) ?_ ?_
            rotate_left
            · intro w'
              go_simp
              with_reducible rfl
            rotate_left
            · simp only [Act.put, List.setIfInBounds_toArray, List.set_cons_zero, List.set_cons_succ, i64_w, i32_w]
              rfl
            refine pure_ (i := 20) (N := some 47) (v := ?_) (a' := ?_) #[true, true, true, true, true, true, true, true, true, true, true, true, true, true, true, true, true, true, true, true, true, false] rfl rfl (any_of HT_.out (by kernel_rfl)) (fun _ _ _ h => h) (Or.inl ⟨by rfl, ?_⟩) ?_ ?_
            rotate_left
            · intro w'
              go_simp
              with_reducible rfl
            rotate_left
            · simp only [Act.put, List.setIfInBounds_toArray, List.set_cons_zero, List.set_cons_succ, i64_w, i32_w]
              rfl
            have d4 := hHeld.2.1
            have f4 := (hHeld.1.frozen (p := ⟨R, 1, none⟩) hRW).trans hfr
            have HR4 := Lib.hid hR4
            have HB4 := Lib.hid hHeld.1
            refine last_ (i := 21) (N := none) #[true, true, true, true, true, true, true, true, true, true, true, true, true, true, true, true, true, true, true, true, true, true] rfl rfl (one_of HT_.out (by kernel_rfl)) (by decide) (fun K hK => ?_)
            refine skip_ (w1 := ?_) (by rfl) rfl ?_ ?_
            rotate_left
            · go_simp
              rfl
            refine hK.out _ _ ?_
            clear hK K
            refine done_ (done_of HT_.out (by kernel_rfl)) ?_
            clear hHeld
            go_wp2
            all_goals
              go_end0
              exact ⟨rfl, add_end (by simp only [List.length_append, List.length_take, List.length_drop, List.length_singleton]; omega) HRRW HBW HR4 HB4 hbase hRlt hile HS HX⟩
          · refine Kd.R_lit_step kCl (w0 := wE) (wE).heap.size 47 (by rfl) rfl (xs := [(k, a, is)]) (inner := [.int .i64 k, .int .i64 a, .bool is]) (ok := fun _ => True) (okp := fun _ => False) ?run (one_reps _ _ _ _ _ _) (fun _ _ => trivial) trivial (Below.refl _ _) (Nat.le_refl _) (by simp) ?_
            case run =>
              go_simp
              try rfl
            intro vC wC hRvC hbvC hgvC _
            have hlvC := hHeld.1.size
            have hBvC := below_then hHeld.1 hHeld.1.size hbvC
            refine hK.out _ _ (KS.out _ hBvC) (fun hHeld => ?_)
            clear hK K
            refine norm_ (a' := ?_) ?_ ?_
            rotate_left
            · show Act.put _ (some 37) _ = _
              simp only [Act.put, List.setIfInBounds_toArray, List.set_cons_zero, List.set_cons_succ, i64_w, i32_w]
              rfl
            refine one_ (i := 8) (N := some 35) #[true, true, true, true, true, true, true, true, true, true, true, false, true, true, true, true, true, true, false, false, false, false] rfl rfl (one_of HT_.out (by kernel_rfl)) (by decide) (fun K hK => ?_)
            refine Kd.R_append_rows_step kCl (w0 := W) W.heap.size (by rfl) (.tmp 28) (.tmp 34) 42 47 (.agg #[.int .i64 0, .int .i64 0, .bool false]) 24 rfl Try.underlying42 info_cl rfl (by decide) (by decide) vE [] (G.take i) A i c (fun _ => True) (fun _ => False) rfl rfl (Kd.R_lower (Kd.R_grown hRvE hgvC (fun k _ e => by cases e)) hlvE) (Kd.C_below HC1.out hHeld.1) (fun _ _ h => h) (fun _ h => h.elim) (fun _ _ => trivial) hHeld.1 hHeld.1.size ?aL ?_
            case aL =>
              simp only [List.length_nil, List.length_append, List.length_singleton, List.length_take, List.length_drop, Nat.zero_add]
              omega
            intro v2 w2 hR2 hb2 hg2 _
            have hC2 := Kd.R_grown (Kd.R_newR hRvC hRvE) hg2 (fun k hk => hk.2)
            refine hK.out _ _ (KS.out _ hb2) (fun hHeld => ?_)
            clear hK K
            refine norm_ (a' := ?_) ?_ ?_
            rotate_left
            · show Act.put _ (some 35) _ = _
              simp only [Act.put, List.setIfInBounds_toArray, List.set_cons_zero, List.set_cons_succ, i64_w, i32_w]
              rfl
            refine one_ (i := 11) (N := some 38) #[true, true, true, true, true, true, true, true, true, true, true, true, true, true, true, true, true, true, false, false, false, false] rfl rfl (one_of HT_.out (by kernel_rfl)) (by decide) (fun K hK => ?_)
            obtain ⟨AC, cC, rfl⟩ := Kd.R_slice hC2
            refine Kd.R_append_rows_step kCl (w0 := W) W.heap.size (by rfl) (.tmp 35) (.tmp 37) 42 47 (.agg #[.int .i64 0, .int .i64 0, .bool false]) 24 rfl Try.underlying42 info_cl rfl (by decide) (by decide) v2 (G.take i) [(k, a, is)] AC 1 cC (fun _ => True) (fun _ => False) rfl rfl hR2 (Kd.R_reads' hC2).2.2 (fun _ _ h => h) (fun _ h => h.elim) (fun _ _ => trivial) hHeld.1 hHeld.1.size ?aL ?_
            case aL =>
              simp only [List.length_nil, List.length_append, List.length_singleton, List.length_take, List.length_drop, Nat.zero_add]
              omega
            intro v3 w3 hR3 hb3 hg3 _
            refine hK.out _ _ (KS.out _ hb3) (fun hHeld => ?_)
            clear hK K
            refine norm_ (a' := ?_) ?_ ?_
            rotate_left
            · show Act.put _ (some 38) _ = _
              simp only [Act.put, List.setIfInBounds_toArray, List.set_cons_zero, List.set_cons_succ, i64_w, i32_w]
              rfl
            refine one_ (i := 18) (N := some 45) #[true, true, true, true, true, true, true, true, true, true, true, true, true, true, true, true, true, true, true, false, false, false] rfl rfl (one_of HT_.out (by kernel_rfl)) (by decide) (fun K hK => ?_)
            refine Kd.R_append_rows_step kCl (w0 := W) W.heap.size (by rfl) (.tmp 38) (.tmp 44) 42 47 (.agg #[.int .i64 0, .int .i64 0, .bool false]) 24 rfl Try.underlying42 info_cl rfl (by decide) (by decide) v3 (G.take i ++ [(k, a, is)]) (G.drop i) _ (G.length - i) (c - i) (fun _ => True) (fun _ => False) rfl rfl hR3 (Kd.C_below HC4.out hHeld.1) (fun _ _ h => h) (fun _ h => h.elim) (fun _ _ => trivial) hHeld.1 hHeld.1.size ?aL ?_
            case aL =>
              simp only [List.length_nil, List.length_append, List.length_singleton, List.length_take, List.length_drop, Nat.zero_add]
              omega
            intro v4 w4 hR4 hb4 hg4 _
            obtain ⟨A4, c4, rfl⟩ := Kd.R_slice hR4
            refine hK.out _ _ (KS.out _ hb4) (fun hHeld => ?_)
            clear hK K
            refine norm_ (a' := ?_) ?_ ?_
            rotate_left
            · show Act.put _ (some 45) _ = _
              simp only [Act.put, List.setIfInBounds_toArray, List.set_cons_zero, List.set_cons_succ, i64_w, i32_w]
              rfl
            refine pure_ (i := 19) (N := some 46) (v := ?_) (a' := ?_) #[true, true, true, true, true, true, true, true, true, true, true, true, true, true, true, true, true, true, true, true, false, false] rfl rfl (any_of HT_.out (by kernel_rfl)) (fun _ _ _ h => h) (Or.inl ⟨by rfl, ?_⟩) ?_ ?_
            rotate_left
            · intro w'
              go_simp
              with_reducible rfl
            rotate_left
            · simp only [Act.put, List.setIfInBounds_toArray, List.set_cons_zero, List.set_cons_succ, i64_w, i32_w]
              rfl
            refine pure_ (i := 20) (N := some 47) (v := ?_) (a' := ?_) #[true, true, true, true, true, true, true, true, true, true, true, true, true, true, true, true, true, true, true, true, true, false] rfl rfl (any_of HT_.out (by kernel_rfl)) (fun _ _ _ h => h) (Or.inl ⟨by rfl, ?_⟩) ?_ ?_
            rotate_left
            · intro w'
              go_simp
              with_reducible rfl
            rotate_left
            · simp only [Act.put, List.setIfInBounds_toArray, List.set_cons_zero, List.set_cons_succ, i64_w, i32_w]
              rfl
            have d4 := hHeld.2.1
            have f4 := (hHeld.1.frozen (p := ⟨R, 1, none⟩) hRW).trans hfr
            have HR4 := Lib.hid hR4
            have HB4 := Lib.hid hHeld.1
            refine last_ (i := 21) (N := none) #[true, true, true, true, true, true, true, true, true, true, true, true, true, true, true, true, true, true, true, true, true, true] rfl rfl (one_of HT_.out (by kernel_rfl)) (by decide) (fun K hK => ?_)
            refine skip_ (w1 := ?_) (by rfl) rfl ?_ ?_
            rotate_left
            · go_simp
              rfl
            refine hK.out _ _ ?_
            clear hK K
            refine done_ (done_of HT_.out (by kernel_rfl)) ?_
            clear hHeld
            go_wp2
            all_goals
              go_end0
              exact ⟨rfl, add_end (by simp only [List.length_append, List.length_take, List.length_drop, List.length_singleton]; omega) HRRW HBW HR4 HB4 hbase hRlt hile HS HX⟩
        · refine Kd.R_lit_step kCl (w0 := W.drew) (W.drew).heap.size 47 (by rfl) rfl (xs := [(k, a, is)]) (inner := [.int .i64 k, .int .i64 a, .bool is]) (ok := fun _ => True) (okp := fun _ => False) ?run (one_reps _ _ _ _ _ _) (fun _ _ => trivial) trivial (Below.refl _ _) (Nat.le_refl _) (by simp) ?_
          case run =>
            go_simp
            try rfl
          intro vC wC hRvC hbvC hgvC _
          have hlvC := hHeld.1.size
          have hBvC := below_then hHeld.1 hHeld.1.size hbvC
          refine hK.out _ _ (KS.out _ hBvC) (fun hHeld => ?_)
          clear hK K
          refine norm_ (a' := ?_) ?_ ?_
          rotate_left
          · show Act.put _ (some 37) _ = _
            simp only [Act.put, List.setIfInBounds_toArray, List.set_cons_zero, List.set_cons_succ, i64_w, i32_w]
            rfl
          refine one_ (i := 1) (N := some 28) #[true, true, true, true, true, true, true, true, false, true, true, false, true, true, true, true, true, true, false, false, false, false] rfl rfl (one_of HT_.out (by kernel_rfl)) (by decide) (fun K hK => ?_)
          refine Kd.R_lit_step kCl (w0 := wC) (wC).heap.size 47 (by rfl) rfl (xs := []) (inner := []) (ok := fun _ => True) (okp := fun _ => False) ?run (Reps.none _ _) (fun _ _ => trivial) trivial (Below.refl _ _) (Nat.le_refl _) (by simp) ?_
          case run =>
            go_simp
            try rfl
          intro vE wE hRvE hbvE hgvE _
          have hlvE := hHeld.1.size
          have hBvE := below_then hHeld.1 hHeld.1.size hbvE
          refine hK.out _ _ (KS.out _ hBvE) (fun hHeld => ?_)
          clear hK K
          refine norm_ (a' := ?_) ?_ ?_
          rotate_left
          · show Act.put _ (some 28) _ = _
            simp only [Act.put, List.setIfInBounds_toArray, List.set_cons_zero, List.set_cons_succ, i64_w, i32_w]
            rfl
          refine one_ (i := 8) (N := some 35) #[true, true, true, true, true, true, true, true, true, true, true, false, true, true, true, true, true, true, false, false, false, false] rfl rfl (one_of HT_.out (by kernel_rfl)) (by decide) (fun K hK => ?_)
          refine Kd.R_append_rows_step kCl (w0 := W) W.heap.size (by rfl) (.tmp 28) (.tmp 34) 42 47 (.agg #[.int .i64 0, .int .i64 0, .bool false]) 24 rfl Try.underlying42 info_cl rfl (by decide) (by decide) vE [] (G.take i) A i c (fun _ => True) (fun _ => False) rfl rfl (Kd.R_lower hRvE hlvE) (Kd.C_below HC1.out hHeld.1) (fun _ _ h => h) (fun _ h => h.elim) (fun _ _ => trivial) hHeld.1 hHeld.1.size ?aL ?_
          case aL =>
            simp only [List.length_nil, List.length_append, List.length_singleton, List.length_take, List.length_drop, Nat.zero_add]
            omega
          intro v2 w2 hR2 hb2 hg2 _
          have hC2 := Kd.R_grown (Kd.R_elder hRvC hRvE hbvE) hg2 (fun k hk => hk.2)
          refine hK.out _ _ (KS.out _ hb2) (fun hHeld => ?_)
          clear hK K
          refine norm_ (a' := ?_) ?_ ?_
          rotate_left
          · show Act.put _ (some 35) _ = _
            simp only [Act.put, List.setIfInBounds_toArray, List.set_cons_zero, List.set_cons_succ, i64_w, i32_w]
            rfl
          refine one_ (i := 11) (N := some 38) #[true, true, true, true, true, true, true, true, true, true, true, true, true, true, true, true, true, true, false, false, false, false] rfl rfl (one_of HT_.out (by kernel_rfl)) (by decide) (fun K hK => ?_)
          obtain ⟨AC, cC, rfl⟩ := Kd.R_slice hC2
          refine Kd.R_append_rows_step kCl (w0 := W) W.heap.size (by rfl) (.tmp 35) (.tmp 37) 42 47 (.agg #[.int .i64 0, .int .i64 0, .bool false]) 24 rfl Try.underlying42 info_cl rfl (by decide) (by decide) v2 (G.take i) [(k, a, is)] AC 1 cC (fun _ => True) (fun _ => False) rfl rfl hR2 (Kd.R_reads' hC2).2.2 (fun _ _ h => h) (fun _ h => h.elim) (fun _ _ => trivial) hHeld.1 hHeld.1.size ?aL ?_
          case aL =>
            simp only [List.length_nil, List.length_append, List.length_singleton, List.length_take, List.length_drop, Nat.zero_add]
            omega
          intro v3 w3 hR3 hb3 hg3 _
          refine hK.out _ _ (KS.out _ hb3) (fun hHeld => ?_)
          clear hK K
          refine norm_ (a' := ?_) ?_ ?_
          rotate_left
          · show Act.put _ (some 38) _ = _
            simp only [Act.put, List.setIfInBounds_toArray, List.set_cons_zero, List.set_cons_succ, i64_w, i32_w]
            rfl
          refine one_ (i := 18) (N := some 45) #[true, true, true, true, true, true, true, true, true, true, true, true, true, true, true, true, true, true, true, false, false, false] rfl rfl (one_of HT_.out (by kernel_rfl)) (by decide) (fun K hK => ?_)
          refine Kd.R_append_rows_step kCl (w0 := W) W.heap.size (by rfl) (.tmp 38) (.tmp 44) 42 47 (.agg #[.int .i64 0, .int .i64 0, .bool false]) 24 rfl Try.underlying42 info_cl rfl (by decide) (by decide) v3 (G.take i ++ [(k, a, is)]) (G.drop i) _ (G.length - i) (c - i) (fun _ => True) (fun _ => False) rfl rfl hR3 (Kd.C_below HC4.out hHeld.1) (fun _ _ h => h) (fun _ h => h.elim) (fun _ _ => trivial) hHeld.1 hHeld.1.size ?aL ?_
          case aL =>
            simp only [List.length_nil, List.length_append, List.length_singleton, List.length_take, List.length_drop, Nat.zero_add]
            omega
          intro v4 w4 hR4 hb4 hg4 _
          obtain ⟨A4, c4, rfl⟩ := Kd.R_slice hR4
          refine hK.out _ _ (KS.out _ hb4) (fun hHeld => ?_)
          clear hK K
          refine norm_ (a' := ?_) ?_ ?_
          rotate_left
          · show Act.put _ (some 45) _ = _
            simp only [Act.put, List.setIfInBounds_toArray, List.set_cons_zero, List.set_cons_succ, i64_w, i32_w]
            rfl
          refine pure_ (i := 19) (N := some 46) (v := ?_) (a' := ?_) #[true, true, true, true, true, true, true, true, true, true, true, true, true, true, true, true, true, true, true, true, false, false] rfl rfl (any_of HT_.out (by kernel_rfl)) (fun _ _ _ h => h) (Or.inl ⟨by rfl, ?_⟩) ?_ ?_
          rotate_left
          · intro w'
            go_simp
            with_reducible rfl
          rotate_left
          · simp only [Act.put, List.setIfInBounds_toArray, List.set_cons_zero, List.set_cons_succ, i64_w, i32_w]
            rfl
          refine pure_ (i := 20) (N := some 47) (v := ?_) (a' := ?_) #[true, true, true, true, true, true, true, true, true, true, true, true, true, true, true, true, true, true, true, true, true, false] rfl rfl (any_of HT_.out (by kernel_rfl)) (fun _ _ _ h => h) (Or.inl ⟨by rfl, ?_⟩) ?_ ?_
          rotate_left
          · intro w'
            go_simp
            with_reducible rfl
          rotate_left
          · simp only [Act.put, List.setIfInBounds_toArray, List.set_cons_zero, List.set_cons_succ, i64_w, i32_w]
            rfl
          have d4 := hHeld.2.1
          have f4 := (hHeld.1.frozen (p := ⟨R, 1, none⟩) hRW).trans hfr
          have HR4 := Lib.hid hR4
          have HB4 := Lib.hid hHeld.1
          refine last_ (i := 21) (N := none) #[true, true, true, true, true, true, true, true, true, true, true, true, true, true, true, true, true, true, true, true, true, true] rfl rfl (one_of HT_.out (by kernel_rfl)) (by decide) (fun K hK => ?_)
          refine skip_ (w1 := ?_) (by rfl) rfl ?_ ?_
          rotate_left
          · go_simp
            rfl
          refine hK.out _ _ ?_
          clear hK K
          refine done_ (done_of HT_.out (by kernel_rfl)) ?_
          clear hHeld
          go_wp2
          all_goals
            go_end0
            exact ⟨rfl, add_end (by simp only [List.length_append, List.length_take, List.length_drop, List.length_singleton]; omega) HRRW HBW HR4 HB4 hbase hRlt hile HS HX⟩
end Go.Proofs.Ytafndajnncfpkaa.Sc
