/- Contracts by hand: the law SetsGroups. -/
import Derived.Outline
import Derived.Lib.Hide
import Derived.Deep.RegionHeld3
import Derived.Test.YtdkecfjeiookdaaGrRG
import Derived.Test.YtdkecfjeiookdaaGrAW
import Derived.Test.YtdkecfjeiookdaaGrSF
namespace Go.Proofs.Ytdkecfjeiookdaa.PA
open Go.RowKit Go.Maps Go.Proofs.YtdkecfjeiookdaaW.PrintWords Go.Proofs.YtdkecfjeiookdaaW.PrintLast Go.Proofs.YtdkecfjeiookdaaW.PrintMore Go.Proofs.Ytdkecfjeiookdaa.Mp Go.Proofs.Ytdkecfjeiookdaa.Ro
set_option linter.unusedVariables false
set_option linter.unusedSimpArgs false

theorem empty_row39 (W : World) (base : Nat) (hb : base ≤ W.heap.size) : Kd.R k39 39 (W.alloc (.cells #[] 39)) base (fun _ => True) (.slice (some ⟨W.heap.size, 0, none⟩) 0 0) [] :=
  ⟨fun _ _ => trivial, [], by have := World.ownsRow_lit (base := base) (e := 39) (size := 5) W #[] 0 hb (by simp [maxLen]) rfl; exact this, by simp, fun j p hj => by simp at hj⟩

theorem getD_set_all {Y : List S32} {P : S32 → Prop} (h : ∀ q, P (Y.getD q z32)) (i : Nat) {s : S32} (hs : P s) : ∀ q, P ((Y.set i s).getD q z32) := by
  intro q
  rw [List.getD_eq_getElem?_getD, List.getElem?_set]
  split
  · split
    · exact hs
    · rename_i h1 h2
      have := h q
      rw [List.getD_eq_getElem?_getD, List.getElem?_eq_none (by omega)] at this
      exact this
  · rw [← List.getD_eq_getElem?_getD]
    exact h q
set_option maxHeartbeats 4000000 in
set_option maxRecDepth 100000 in
theorem ostiarylaw22_SetsGroups.calls (A0 : Option Addr) (c0 : Nat) (l0 : List (S39)) (w : World) (hr0 : Kd.C k39 w A0 l0.length l0) (hc0 : l0.length ≤ c0) (ho2 : (∀ r ∈ l0, OkRec r) ∧ l0.length * 56 ≤ reachBytes) :
    Calls Try.prog 3 #[.slice A0 l0.length c0] w fun e w' => e = .returned (.bool true) ∧ Below w.heap.size w w' := by
  obtain ⟨ho, hlen⟩ := ho2
  obtain ⟨q, hq, hqq⟩ := longRecs_tells (l0.length + 1) 60 l0 ho hlen (by omega)
  have HR := Aside0.mk hr0
  have HQ := Aside0.mk hq
  clear hr0 hq
  cases q with
  | true =>
    clear hqq
    go_enter Try.func3, Try.ntmps3
    go_wp2_with (first | (go_at_call 15; (with_reducible refine (ostiarykit_LongRecs.calls (l0.length + 1) A0 c0 l0 60 true _ HR.out hc0 HQ.out).mono ?_); rintro e w1 ⟨rfl, ⟨nd, rfl⟩⟩) | (go_at_call 16; (with_reducible refine (ostiarylaw22_awake.calls true _ rfl).mono ?_); rintro e w2 ⟨rfl, hb⟩))
    go_ret
    exact ⟨rfl, below_step (pw_below_drewN (Below.refl _ _) _) hb⟩
  | false =>
    obtain ⟨hn, hsz⟩ := hqq rfl
    clear hqq
    have hn' : l0.length ≤ 60 := by omega
    have hX1 := groupTo_length l0 l0.length
    have hXd : ∀ s ∈ groupTo l0 l0.length, s.f4.length ≤ 60 := fun s hs => by
      obtain ⟨j, hj, rfl⟩ := List.getElem_of_mem hs
      have := groupTo_data l0 l0.length j
      rw [List.getD_eq_getElem?_getD, List.getElem?_eq_getElem hj] at this
      simp only [Option.getD_some] at this
      omega
    have hok : ∀ r ∈ l0, okRecG r := fun r hr => ⟨by have := (hsz r hr).1; omega, (ho r hr).2.1, (ho r hr).2.2.1⟩
    have hg : sets_Group.f l0 = some (groupTo l0 l0.length) := by unfold sets_Group.f; rw [if_pos ⟨by omega, hok⟩]
    have hgr : ostiaryref22_Group.f l0 = some (groupTo l0 l0.length) := by unfold ostiaryref22_Group.f; rw [if_pos ⟨by omega, hok⟩]
    generalize groupTo l0 l0.length = X at *
    obtain ⟨v, hl1, hl2⟩ := least_same 1000 X (by omega) (by omega)
    have HG := Aside0.mk hg
    have HGR := Aside0.mk hgr
    have HL1 := Aside0.mk hl1
    have HL2 := Aside0.mk hl2
    have HSS := Aside0.mk (selfSets 1000 X 60 (by omega) hXd (by omega) (by omega))
    have HSR := Aside0.mk (selfRecs 1000 l0 (by omega) (by omega))
    have HXD := Aside0.mk hXd
    clear hg hgr hl1 hl2 hXd hok hsz ho hlen hn
    go_enter Try.func3, Try.ntmps3
    go_upto_region 3 with (first | (go_at_call 15; (with_reducible refine (ostiarykit_LongRecs.calls (l0.length + 1) A0 c0 l0 60 false _ HR.out hc0 HQ.out).mono ?_); rintro e w1 ⟨rfl, ⟨nd, rfl⟩⟩))
    go_upto_region 4 with (first | (at_builtin; refine Kd.R_append_rows k39 (w0 := w) w.heap.size rfl (.tmp 11) (.tmp 12) 22 39 (.agg #[(.string ⟨#[]⟩), (.int .i64 0), (.int .i64 0), (.int .i64 0), (.string ⟨#[]⟩)]) 56 rfl Try.underlying22 (by kernel_rfl) rfl (by decide) (by decide) (.slice (some ⟨w.heap.size, 0, none⟩) 0 0) [] l0 A0 l0.length c0 (fun _ => True) (fun _ => False) rfl rfl ?aO ?aR (fun _ _ h => h) (fun _ h => h.elim) (fun _ _ => trivial) ?aB ?aS ?aL ?_; (case aB => repeat (first | exact Below.refl _ _ | (with_reducible first | apply below_alloc | apply pw_below_drewN | apply below_drew1))); (case aS => exact below_size (by repeat (first | exact Below.refl _ _ | (with_reducible first | apply below_alloc | apply pw_below_drewN | apply below_drew1)))); (case aO => exact Kd.R_drewN (empty_row39 w w.heap.size (Nat.le_refl _)) nd); (case aR => exact Kd.C_below HR.out (by repeat (first | exact Below.refl _ _ | (with_reducible first | apply below_alloc | apply pw_below_drewN | apply below_drew1)))); (case aL => simp only [List.length_nil, Nat.zero_add]; omega); intro v3 W3 hR3 hB3 _ _; rw [List.nil_append] at hR3; obtain ⟨A3, c3, rfl⟩ := Kd.R_slice hR3; have hc3 := (Kd.R_reads' hR3).2.1; have HR3 := Lib.hid (Kd.R_mono (Kd.R_bound hR3) (fun k h => (h.2.2.1 : k < W3.heap.size))); have HB3 := Aside0.mk hB3; clear hR3 hB3))
    go_upto_region 5 with (first | (go_at_call 17; (with_reducible refine (sets_Group.calls A3 c3 l0 X _ (Kd.R_reads' HR3.out).2.2 hc3 HG.out).mono ?_); rintro e W4 ⟨v4, rfl, hS4, hB4⟩; obtain ⟨A4, c4, rfl⟩ := Kd.S_slice hS4; have HR4 := Lib.hid (Kd.R_below HR3.out hB4); have HS4 := Lib.hid (Kd.S_mono (Kd.S_bound hS4) (fun k h => (h.2.2.1 : k < W4.heap.size))); have HB4 := Aside0.mk (below_step HB3.out hB4); have hN34 := hB4.size; clear hS4 hB4))
    go_upto_region 6 with (first | (go_at_call 18; (with_reducible refine (ostiaryref22_Group.calls A0 c0 l0 X _ (Kd.C_below HR.out HB4.out) hc0 HGR.out).mono ?_); rintro e W5 ⟨v5, rfl, hS5, hB5⟩; obtain ⟨A5, c5, rfl⟩ := Kd.S_slice hS5; have HR5 := Lib.hid (Kd.R_below HR4.out hB5); have HS5 := Lib.hid hS5; have HX5 := Lib.hid (Kd.S_below HS4.out hB5); have HB5 := Aside0.mk (below_step HB4.out hB5); have hN45 := hB5.size; clear hS5 hB5))
    have HZ := Aside0.mk (Below.refl W5.heap.size W5)
    have hc4 := (Kd.S_reads' HX5.out).2.1
    have hc5 := (Kd.S_reads' HS5.out).2.1
    go_upto_region 8 with (first | (go_at_call 19; (with_reducible refine (ostiarykit_SameSets.calls 1000 A4 c4 X A5 c5 X true _ (Kd.C_below (Kd.S_reads' HX5.out).2.2 (by repeat (first | exact HZ.out | (with_reducible first | apply below_alloc | apply pw_below_drewN | apply below_drew1)))) hc4 (Kd.C_below (Kd.S_reads' HS5.out).2.2 (by repeat (first | exact HZ.out | (with_reducible first | apply below_alloc | apply pw_below_drewN | apply below_drew1)))) hc5 HSS.out).mono ?_); rintro e w' ⟨rfl, hb⟩; have n0_ := Aside0.mk (below_step (by repeat (first | exact HZ.out | (with_reducible first | apply below_alloc | apply pw_below_drewN | apply below_drew1))) hb); clear HZ; have HZ := n0_; clear n0_ hb) | (go_at_call 20; (with_reducible refine (ostiarykit_SameRecs.calls 1000 A3 c3 l0 A0 c0 l0 true _ (Kd.C_below (Kd.R_reads' HR5.out).2.2 (by repeat (first | exact HZ.out | (with_reducible first | apply below_alloc | apply pw_below_drewN | apply below_drew1)))) hc3 (Kd.C_below (Kd.C_below HR.out HB5.out) (by repeat (first | exact HZ.out | (with_reducible first | apply below_alloc | apply pw_below_drewN | apply below_drew1)))) hc0 HSR.out).mono ?_); rintro e w' ⟨rfl, ⟨nd2, rfl⟩⟩) | (go_at_call 21; (with_reducible refine (sets_Least.calls 1000 A4 c4 X v _ (Kd.C_below (Kd.S_reads' HX5.out).2.2 (by repeat (first | exact HZ.out | (with_reducible first | apply below_alloc | apply pw_below_drewN | apply below_drew1)))) hc4 HL1.out).mono ?_); rintro e w' ⟨rfl, hb⟩; have n0_ := Aside0.mk (below_step (by repeat (first | exact HZ.out | (with_reducible first | apply below_alloc | apply pw_below_drewN | apply below_drew1))) hb); clear HZ; have HZ := n0_; clear n0_ hb) | (go_at_call 22; (with_reducible refine (ostiaryref22_Least.calls 1000 A5 c5 X v _ (Kd.C_below (Kd.S_reads' HS5.out).2.2 (by repeat (first | exact HZ.out | (with_reducible first | apply below_alloc | apply pw_below_drewN | apply below_drew1)))) hc5 HL2.out).mono ?_); rintro e w' ⟨rfl, hb⟩; have n0_ := Aside0.mk (below_step (by repeat (first | exact HZ.out | (with_reducible first | apply below_alloc | apply pw_below_drewN | apply below_drew1))) hb); clear HZ; have HZ := n0_; clear n0_ hb))
    have HX6 := Lib.hid (Kd.S_below HX5.out HZ.out)
    have HS6 := Lib.hid (Kd.S_below HS5.out HZ.out)
    have HR6 := Lib.hid (Kd.R_below HR5.out HZ.out)
    have hB6 := below_step HB5.out HZ.out
    have hN6 := Nat.le_trans hN45 HZ.out.size
    have hN3 := HB3.out.size
    clear HX5 HS5 HR5 HB5 HZ
    go_wp2
    go_loopw [6] (fun v6 wr => ∃ (i : Nat) (Y : List S32), v6 = .int .i64 i ∧ i ≤ X.length ∧ Y.length = X.length ∧ Hid (∀ q, (Y.getD q z32).f4.length ≤ 60) ∧ Hid (Kd.S k32 32 wr W3.heap.size (fun k => k < W4.heap.size) (.slice A4 X.length c4) Y) ∧ Hid (Kd.S k32 32 wr W4.heap.size (fun _ => True) (.slice A5 X.length c5) X) ∧ Hid (Kd.R k39 39 wr w.heap.size (fun k => k < W3.heap.size) (.slice A3 l0.length c3) l0) ∧ Below w.heap.size w wr ∧ W4.heap.size ≤ wr.heap.size) (fun v6 _ => X.length - (intOf v6).toNat)
    case atStart => exact ⟨0, X, rfl, Nat.zero_le _, rfl, Lib.hid (fun q => by rcases Nat.lt_or_ge q X.length with h | h; exact HXD.out _ (getD_mem32 h); rw [List.getD_eq_getElem?_getD, List.getElem?_eq_none h]; exact Nat.zero_le _), HX6, HS6, HR6, (by first | exact hB6 | exact pw_below_drewN hB6 _), (by first | exact hN6)⟩
    case round =>
      obtain ⟨i, Y, rfl, hi, hY, hD, HY, HW, HI, hB, hN⟩ := hrel
      by_cases hlt : i < X.length
      · obtain ⟨g, cap, hv, hgb, hgl, cells, hgc⟩ := Kd.S_form HY.out (by omega)
        injection hv with e1 e2 e3
        subst e1
        subst e3
        clear e2 hgc hgl
        have hgN : g < W4.heap.size := (Kd.S_mono HY.out (fun k h => h) |> fun h => by obtain ⟨f, hR⟩ := h; exact hR.1 g rfl)
        obtain ⟨n, hn⟩ : ∃ n, (Y.getD i z32).f4.length = n := ⟨_, rfl⟩
        have hn60 : n ≤ 60 := by rw [← hn]; exact hD.out i
        have hi0 : (0 : Int) ≤ (i : Int) := Int.natCast_nonneg _
        have hi1 : (i : Int) < (X.length : Int) := by omega
        go_wp2
        go_loopw [7] (fun v7 wr => ∃ (j : Nat) (Y2 : List S32), v7 = .int .i64 j ∧ j ≤ n ∧ Y2.length = X.length ∧ Hid ((Y2.getD i z32).f4.length = n) ∧ Hid (∀ q, (Y2.getD q z32).f4.length ≤ 60) ∧ Hid (Kd.S k32 32 wr W3.heap.size (fun k => k < W4.heap.size) (.slice (some ⟨g, 0, none⟩) X.length c4) Y2) ∧ Hid (Kd.S k32 32 wr W4.heap.size (fun _ => True) (.slice A5 X.length c5) X) ∧ Hid (Kd.R k39 39 wr w.heap.size (fun k => k < W3.heap.size) (.slice A3 l0.length c3) l0) ∧ Below w.heap.size w wr ∧ W4.heap.size ≤ wr.heap.size) (fun v7 _ => n - (intOf v7).toNat)
        case atStart => exact ⟨0, Y, rfl, Nat.zero_le _, hY, Lib.hid hn, hD, HY, HW, HI, hB, hN⟩
        case round =>
          clear HY HW HI hB hN hn hY hD
          obtain ⟨j, Y2, rfl, hj, hY2, hn2, hD2, HY2, HW2, HI2, hB2, hN2⟩ := hrel
          obtain ⟨oki, cs, hcl, hKM, hcc, hfr, hoki, hH⟩ := Kd.S_elem HY2.out z32 (i : Int) hi0 hi1
          obtain ⟨v4, rfl, hR4⟩ := k32_openM hKM
          rw [Int.toNat_natCast] at hKM hR4 hcc
          rw [Int.toNat_natCast] at hH
          generalize hs : Y2.getD i z32 = s at hKM hR4 hcc hcl hH hn2
          have HH := Lib.hid hH
          have e4 : wr.cell? ⟨g, i * 5 + 4, none⟩ = some v4 := hcc 4 _ rfl
          clear hH hKM hs hcl
          by_cases hjn : j < n
          · obtain ⟨gi, ci, rfl, hgi, hgil, cellsi, hgic⟩ := Kd.R_form hR4 (by have := hn2.out; omega)
            rw [hn2.out] at hR4 e4
            obtain ⟨c, hcl2, hM2, hcc2, hfr2⟩ := Kd.R_elem hR4 (⟨#[]⟩ : ByteArray) (j : Int) (Int.natCast_nonneg _) (by omega)
            obtain ⟨u0, hu0⟩ : ∃ u0 : ByteArray, wr.cell? ⟨gi, j, none⟩ = some (.string u0) := ⟨_, by have := hcc2 0 _ (by rw [show c = _ from hM2]; rfl); rw [show Kd.string.sz = 1 from rfl, Nat.mul_one, Nat.add_zero, Int.toNat_natCast] at this; exact this⟩
            have hf0 : wr.frozen? ⟨gi, j, none⟩ = false := by have := hfr2 0; rw [show Kd.string.sz = 1 from rfl, Nat.mul_one, Nat.add_zero, Int.toNat_natCast] at this; exact this
            have hp := Kd.R_putg hR4 (j : Int) (⟨#[111, 118, 101, 114]⟩ : ByteArray)
            rw [Int.toNat_natCast] at hp
            have hgk : oki gi := hR4.1 gi rfl
            have hgk2 : gi < W4.heap.size := (hoki gi hgk).1
            have HP := Lib.hid hp
            clear hp hcc hfr hcc2 hfr2 hgic hcl2 hM2 hR4
            go_wp2
            go_roundw
            case rel =>
              obtain ⟨hp1, hp2⟩ := HP.out
              refine ⟨j + 1, Y2.set i ⟨s.f0, s.f1, s.f2, s.f3, s.f4.set j ⟨#[111, 118, 101, 114]⟩⟩, by go_num, by omega, by rw [List.length_set]; exact hY2, Lib.hid (by rw [List.getD_eq_getElem?_getD, List.getElem?_set_self (show i < Y2.length by omega)]; show (s.f4.set j _).length = n; rw [List.length_set]; exact hn2.out), Lib.hid (getD_set_all hD2.out i (P := fun s => s.f4.length ≤ 60) (by show (s.f4.set j _).length ≤ 60; rw [List.length_set, hn2.out]; exact hn60)),
                Lib.hid (Kd.H_back (Kd.H_grown HH.out hp2 (fun k e => (Option.some.inj e) ▸ hgk)) (k32_mkM _ _ _ (⟨s.f0, s.f1, s.f2, s.f3, s.f4.set j ⟨#[111, 118, 101, 114]⟩⟩ : S32) (by rw [hn2.out]; exact hp1)) (fun _ hk => hk)),
                Lib.hid (Kd.S_mono (Kd.S_grown (Kd.S_mono (Kd.S_bound HW2.out) (fun k hk => (hk.2.1 : W4.heap.size ≤ k))) hp2 (fun k hk e => by have h1 : k = gi := Option.some.inj e; have h2 : W4.heap.size ≤ k := hk; omega)) (fun _ _ => trivial)),
                Lib.hid (Kd.R_grown HI2.out hp2 (fun k hk e => by have h1 : k = gi := Option.some.inj e; have h2 : k < W3.heap.size := hk; omega)),
                hB2.setCell (p := ⟨gi, j, none⟩) (Nat.le_trans hN3 hgi) _, by simpa using hN2⟩
            case measure => simp [intOf]; omega
          · obtain rfl : j = n := by omega
            obtain ⟨Ai, ci, rfl⟩ := Kd.R_slice hR4
            rw [hn2.out] at e4
            have e0 : wr.cell? ⟨g, i * 5, none⟩ = some (.string s.f0) := hcc 0 _ rfl
            have e1 : wr.cell? ⟨g, i * 5 + 1, none⟩ = some (.int .i64 s.f1) := hcc 1 _ rfl
            have e2 : wr.cell? ⟨g, i * 5 + 2, none⟩ = some (.int .i64 s.f2) := hcc 2 _ rfl
            have e3 : wr.cell? ⟨g, i * 5 + 3, none⟩ = some (.int .i64 s.f3) := hcc 3 _ rfl
            have g0 : wr.frozen? ⟨g, i * 5, none⟩ = false := hfr 0
            have g1 : wr.frozen? ⟨g, i * 5 + 1, none⟩ = false := hfr 1
            have g2 : wr.frozen? ⟨g, i * 5 + 2, none⟩ = false := hfr 2
            have g3 : wr.frozen? ⟨g, i * 5 + 3, none⟩ = false := hfr 3
            have g4 : wr.frozen? ⟨g, i * 5 + 4, none⟩ = false := hfr 4
            clear hcc hfr hR4
            obtain ⟨h1, k1⟩ := H_cell HH.out hi0 hi1 0 (by decide) rfl (.string ⟨#[]⟩) rfl
            obtain ⟨h2, k2⟩ := H_cell h1 hi0 hi1 1 (by decide) rfl (.int .i64 0) rfl
            obtain ⟨h3, k3⟩ := H_cell h2 hi0 hi1 2 (by decide) rfl (.int .i64 0) rfl
            obtain ⟨h4, k4⟩ := H_cell h3 hi0 hi1 3 (by decide) rfl (.int .i64 0) rfl
            obtain ⟨h5, k5⟩ := H_cell h4 hi0 hi1 4 (by decide) rfl (.slice none 0 0) rfl
            have K := Lib.hid ((((k1.trans k2).trans k3).trans k4).trans k5)
            have HS5 := Lib.hid (Kd.H_back (okp := fun _ => False) h5 (k32_mkM _ _ _ z32 (Kd.R_nil _ _ _ _ _)) (fun _ hk => hk.elim))
            clear h1 h2 h3 h4 h5 k1 k2 k3 k4 k5 HH HY2
            go_wp2
            go_roundw
            case rel =>
              refine ⟨i + 1, Y2.set i z32, by go_num, by omega, by rw [List.length_set]; exact hY2, Lib.hid (getD_set_all hD2.out i (P := fun s => s.f4.length ≤ 60) (Nat.zero_le _)), HS5,
                Lib.hid (Kd.S_mono (Kd.S_grown (Kd.S_mono (Kd.S_bound HW2.out) (fun k hk => (hk.2.1 : W4.heap.size ≤ k))) K.out (fun k hk e => by have h1 : k = g := Option.some.inj e; have h2 : W4.heap.size ≤ k := hk; omega)) (fun _ _ => trivial)),
                Lib.hid (Kd.R_grown HI2.out K.out (fun k hk e => by have h1 : k = g := Option.some.inj e; have h2 : k < W3.heap.size := hk; omega)),
                hB2.grown K.out hB2.size (fun k e => by have h1 : g = k := Option.some.inj e; omega), by simpa using hN2⟩
            case measure => simp [intOf]; omega
      · obtain rfl : i = X.length := by omega
        clear HY hD hY
        go_wp2_with (first | (go_at_call 17; (with_reducible refine (sets_Group.calls A3 c3 l0 X _ (Kd.R_reads' HI.out).2.2 hc3 HG.out).mono ?_); rintro e W6 ⟨v6, rfl, hS7, hB7⟩; obtain ⟨A6, c6, rfl⟩ := Kd.S_slice hS7; have HS7 := Lib.hid hS7; have HW7 := Lib.hid (Kd.S_below HW.out hB7); have hc6 := (Kd.S_reads' hS7).2.1; have HB7 := Aside0.mk (below_step hB hB7); clear hS7 hB7) | (go_at_call 19; (with_reducible refine (ostiarykit_SameSets.calls 1000 A6 c6 X A5 c5 X true _ (Kd.S_reads' HS7.out).2.2 hc6 (Kd.S_reads' HW7.out).2.2 hc5 HSS.out).mono ?_); rintro e W8 ⟨rfl, hb8⟩; have HB8 := Aside0.mk (below_step HB7.out hb8); clear hb8) | (go_at_call 16; (with_reducible refine (ostiarylaw22_awake.calls true _ rfl).mono ?_); rintro e W9 ⟨rfl, hb9⟩; have HB9 := Aside0.mk (below_step HB8.out hb9); clear hb9))
        go_ret
        exact ⟨rfl, HB9.out⟩
end Go.Proofs.Ytdkecfjeiookdaa.PA
