/- The document's table (ostiaryref20): Idle, All. -/
import Derived.Test.YtafndajnncfpkaaSA
namespace Go.Proofs.Ytafndajnncfpkaa.Sb
open Go Go.RowKit Go.Maps Go.Sort Go.Shelf Go.Proofs.YtafndajnncfpkaaW.PrintWords Go.Proofs.YtafndajnncfpkaaW.PrintLast Go.Proofs.YtafndajnncfpkaaW.PrintMore Go.Proofs.Ytafndajnncfpkaa.Mp Go.Proofs.Ytafndajnncfpkaa.Tm Go.Proofs.Ytafndajnncfpkaa.Tb Go.Proofs.Ytafndajnncfpkaa.Tc Go.Proofs.Ytafndajnncfpkaa.Ta Go.Proofs.Ytafndajnncfpkaa.Ti Go.Proofs.Ytafndajnncfpkaa.Tg Go.Proofs.Ytafndajnncfpkaa.Tt Go.Proofs.Ytafndajnncfpkaa.Ts Go.Proofs.Ytafndajnncfpkaa.Tz Go.Proofs.Ytafndajnncfpkaa.Tq Go.Proofs.Ytafndajnncfpkaa.Tv Go.Proofs.Ytafndajnncfpkaa.Tx Go.Proofs.Ytafndajnncfpkaa.Sa
set_option linter.unusedVariables false
set_option linter.unusedSimpArgs false
/-- One field of one client is written. -/
theorem row_set {W : World} {base : Nat} {g n c : Nat} {G : List Cl} (h : Kd.R kCl 47 W base (fun _ => True) (.slice (some ⟨g, 0, none⟩) n c) G) (i : Nat) (hi : i < G.length) (j : Nat) (hj : j < 3) (u : Value) (x' : Cl)
    (hx : ([.int .i64 G[i].1, .int .i64 G[i].2.1, .bool G[i].2.2] : List Value).take j ++ [u] ++ ([.int .i64 G[i].1, .int .i64 G[i].2.1, .bool G[i].2.2] : List Value).drop (j + 1) = [.int .i64 x'.1, .int .i64 x'.2.1, .bool x'.2.2]) :
    Kd.R kCl 47 (W.setCell ⟨g, i * 3 + j, none⟩ u) base (fun _ => True) (.slice (some ⟨g, 0, none⟩) n c) (G.set i x') ∧ W.grownBy (W.setCell ⟨g, i * 3 + j, none⟩ u) (some g) := by
  have hn := (Kd.R_reads' h).1
  obtain ⟨c', hcl, hM, hcc, _⟩ := Kd.R_elem h (0, 0, false) (i : Int) (by omega) (by omega)
  have hxd : G.getD (i : Int).toNat (0, 0, false) = G[i] := by
    rw [List.getD_eq_getElem?_getD, Int.toNat_natCast, List.getElem?_eq_getElem hi]
    rfl
  rw [hxd] at hM
  obtain rfl := kCl_open hM
  have := Kd.R_seg h (i : Int) (by omega) (by omega) (seg := [u]) (j := j) (x' := x') (okp := fun _ => False) hcl hcc (by show j + 1 ≤ 3; omega) (by
    show kCl.M W base _ x' (_ ++ [u] ++ List.drop (j + 1) _)
    rw [hx]
    exact kCl_mk _ _ _ _) (fun _ h => h.elim)
  rw [Int.toNat_natCast] at this
  exact this
set_option maxRecDepth 100000 in
set_option maxHeartbeats 1000000 in
theorem refidle_c (R base : Nat) (most : Int) (G : List Cl) (k : Int) (is : Bool) (w : World) (h : RefAt w R base most G) (hG : WfL G) (hlen : G.length ≤ 100000) : Calls Try.prog 15 #[.pointer (some ⟨R, 0, none⟩), .int .i64 k, .bool is] w fun e w' => e = .returned (.int .i64 (idleV G k)) ∧ RefAt w' R base most (idleS G k is) ∧ Moved w w' R base := by
  have H := Lib.hid h
  obtain ⟨A, c, hR, hbase, hrow⟩ := h
  have HR := Lib.hid hrow
  have HRR := Lib.hid hR
  have HN := Lib.hid hG
  have c1 : w.cell? ⟨R, 1, none⟩ = some (.slice A G.length c) := by simp [World.cell?, hR]
  clear hrow hR hG
  go_enter Try.func15, Try.ntmps15
  go_upto_region 2 with (first
    | (go_at_call 18; (with_reducible refine (refat_c R base most G k _ H.out hlen).mono ?_); rintro e w1 ⟨⟨r, rfl, hP⟩, rfl⟩))
  rcases hP with ⟨i, hi, rfl, hx⟩ | ⟨rfl, hno⟩
  · have d1 : decide ((i : Int) < 0) = false := decide_eq_false (by omega)
    have p1 : (0 ≤ (i : Int)) = True := eq_true (by omega)
    have q1 : ((i : Int) < (G.length : Int)) = True := eq_true (by omega)
    obtain ⟨g, e1, x0, x1, x2, hf⟩ := cl_at HR.out i hi
    cases e1
    have f2 := hf (i * 3 + 2)
    clear hf
    have hrs := row_set HR.out i hi 2 (by omega) (.bool is) (G[i].1, G[i].2.1, is) rfl
    have hgR : R ≠ g := fun e => Kd.R_ne HR.out HRR.out (by decide) (by rw [e]; rfl)
    have hty : ∃ cells, w.heap[g]? = some (.cells cells 47 (0, 0)) := Kd.R_typed HR.out g rfl
    have hbg : base ≤ g := Kd.R_base HR.out g rfl
    have hS : idleS G k is = G.set i (G[i].1, G[i].2.1, is) := by
      have := set_map HN.out.1 i hi (fun c => (c.1, c.2.1, is))
      rw [this, hx]
      have ht : (tabF G k).isSome = true := (tabF_isSome G k).2 (List.mem_map.2 ⟨G[i], List.getElem_mem hi, hx⟩)
      rw [idleS, if_pos ht]
      rfl
    have hV : idleV G k = 0 := by
      have ht : (tabF G k).isSome = true := (tabF_isSome G k).2 (List.mem_map.2 ⟨G[i], List.getElem_mem hi, hx⟩)
      rw [idleV, if_pos ht]
    have HS := Lib.hid hS
    have HV := Lib.hid hV
    have HRS := Lib.hid hrs
    clear hrs hx hS hV
    go_wp2
    go_ret
    rw [HS.out, HV.out]
    refine ⟨rfl, ⟨some ⟨g, 0, none⟩, c, ?_, hbase, ?_⟩, g, HRS.out.2, hbg, Or.inr hty⟩
    · rw [List.length_set]
      exact (HRS.out.2.block R (Array.getElem?_eq_some_iff.1 HRR.out).1 (by simpa using hgR)).trans HRR.out
    · rw [List.length_set]
      exact HRS.out.1
  · have hn : (tabF G k).isSome = false := by
      rw [Bool.eq_false_iff]
      intro ht
      obtain ⟨c', hc, e⟩ := List.mem_map.1 ((tabF_isSome G k).1 ht)
      exact hno c' hc e
    have hS : idleS G k is = G := by rw [idleS, hn]; rfl
    have hV : idleV G k = 6 := by rw [idleV, hn]; rfl
    have HS := Lib.hid hS
    have HV := Lib.hid hV
    clear hn hS hV hno
    go_wp2
    go_ret
    rw [HS.out, HV.out]
    exact ⟨rfl, H.out, Moved.same _ hbase⟩
theorem info_int : (Try.prog.info? 3).map (fun i => (i.zero, i.size, i.bytes)) = some (some (.int .i64 0), (Kd.int .i64).sz, 8) := by kernel_rfl
set_option maxRecDepth 100000 in
set_option maxHeartbeats 1000000 in
theorem refall_c (R base : Nat) (most : Int) (G : List Cl) (w : World) (h : RefAt w R base most G) (hlen : G.length ≤ 100000) : Calls Try.prog 22 #[.pointer (some ⟨R, 0, none⟩)] w fun e w' => ∃ (A : Option Addr) (c : Nat), e = .returned (.slice A G.length c) ∧ IntsAt w' A (G.map (·.1)) ∧ Below w.heap.size w w' := by
  obtain ⟨A, c, hR, hbase, hrow⟩ := h
  have HR := Lib.hid hrow
  have HRR := Lib.hid hR
  clear hrow hR
  go_enter Try.func22, Try.ntmps22
  go_wp2
  go_loopg [3, 4] G.length (fun kq v3 v4 wr => ∃ i : Nat, i + kq = G.length ∧ v4 = .int .i64 (i : Int) ∧ RowKit.Hid (Kd.R (Kd.int .i64) 3 wr w.heap.size (fun _ => True) v3 ((G.take i).map (·.1))) ∧ RowKit.Hid (Below w.heap.size w wr))
  case atStart => exact ⟨0, by omega, rfl, Lib.hid (Kd.R_nil _ _ _ _ _), Lib.hid (Below.refl _ _)⟩
  case round =>
    obtain ⟨i, hi, rfl, HO, HB⟩ := hrel
    have hblk := (HB.out.block R (Array.getElem?_eq_some_iff.1 HRR.out).1).trans HRR.out
    have c1 : wr.cell? ⟨R, 1, none⟩ = some (.slice A G.length c) := by simp [World.cell?, hblk]
    clear hblk
    by_cases hiq : i < G.length
    · obtain ⟨q, rfl⟩ : ∃ q, gk = q + 1 := ⟨gk - 1, by omega⟩
      have d1 : decide ((i : Int) < (G.length : Int)) = true := decide_eq_true (by omega)
      have p1 : (0 ≤ (i : Int)) = True := eq_true (by omega)
      have q1 : ((i : Int) < (G.length : Int)) = True := eq_true (by omega)
      obtain ⟨g, e1, x0, x1, x2, _⟩ := cl_at (Kd.R_below HR.out HB.out) i hiq
      have hT : (G.take (i + 1)).map (·.1) = (G.take i).map (·.1) ++ [G[i].1] := by
        rw [List.take_succ_eq_append_getElem hiq, List.map_append]
        rfl
      have HT := Lib.hid hT
      have hlt : ((G.take i).map (·.1)).length ≤ 100000 := by rw [List.length_map, List.length_take]; omega
      cases e1
      clear hT
      generalize G[i].1 = y at *
      go_wp2_with (first
        | ((with_reducible refine gate_builtin (b := .append) (xs := #[.tmp 14, .tmp 23]) rfl ?_); at_builtin; refine Kd.R_append (Kd.int .i64) (w0 := w) w.heap.size rfl (.tmp 14) (.tmp 23) 48 3 (.int .i64 0) 8 rfl Try.underlying48 info_int rfl (by decide) (by omega) u3 ((G.take i).map (·.1)) y [.int .i64 y] (fun _ => True) (fun _ => False) rfl rfl rfl (fun _ hk => hk.elim) (fun _ _ => trivial) HO.out HB.out HB.out.size (by omega) ?_; intro v6 w6 ho hb _ _; rw [← HT.out] at ho; have HO6 := Lib.hid ho; have HB6 := Lib.hid hb; clear ho hb))
      go_roundg q
      case measure => omega
      case rel => exact ⟨i + 1, by omega, congrArg (Value.int .i64) (by first | (unfold wrap64; omega) | omega), HO6, HB6⟩
    · have d1 : decide ((i : Int) < (G.length : Int)) = false := decide_eq_false (by omega)
      have hT : (G.take i).map (·.1) = G.map (·.1) := by rw [List.take_of_length_le (by omega)]
      rw [hT] at HO
      obtain ⟨A2, c2, rfl⟩ := Kd.R_slice HO.out
      go_wp2
      go_ret
      refine ⟨A2, ⟨c2, rfl⟩, fun j hj => ?_, HB.out⟩
      obtain ⟨ad, c', e2, hcl, hK, hcc⟩ := Kd.C_get (Kd.R_reads' HO.out).2.2 0 (j : Int) (by omega) (by omega)
      have hc0 : c' = [.int .i64 ((G.map (·.1)).getD (j : Int).toNat 0)] := hK
      have hx : (G.map (·.1)).getD (j : Int).toNat 0 = (G.map (·.1))[j] := by
        rw [List.getD_eq_getElem?_getD, Int.toNat_natCast, List.getElem?_eq_getElem hj]
        rfl
      rw [hx] at hc0
      subst hc0
      refine ⟨ad, e2, ?_⟩
      have := hcc 0 _ rfl
      rw [Int.toNat_natCast, show (Kd.int .i64).sz = 1 from rfl, Nat.mul_one, Nat.add_zero] at this
      exact this
end Go.Proofs.Ytafndajnncfpkaa.Sb
