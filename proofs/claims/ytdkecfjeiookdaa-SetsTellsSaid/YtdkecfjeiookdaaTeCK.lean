/- Contracts by hand: sets.Check. -/
import Derived.Outline
import Derived.Lib.Hide
import Derived.StringKeys
import Derived.Test.YtdkecfjeiookdaaTeMP
import Derived.Test.YtdkecfjeiookdaaTePAx0
import Derived.Test.YtdkecfjeiookdaaTePAx21
namespace Go.Proofs.Ytdkecfjeiookdaa.PA
open Go.RowKit Go.Maps Go.Proofs.YtdkecfjeiookdaaW.PrintWords Go.Proofs.YtdkecfjeiookdaaW.PrintLast Go.Proofs.YtdkecfjeiookdaaW.PrintMore Go.Proofs.Ytdkecfjeiookdaa.Mp
set_option linter.unusedVariables false
set_option linter.unusedSimpArgs false

theorem keyedS : Keyed Try.prog 9 := Keyed.of_law (Go.WideMaps.string_law Try.underlying9)
theorem keyS_some (x : ByteArray) (h : x.size ≤ maxLen) : (keyOf Try.prog 9 (.string x)).isSome = true := by rw [Go.WideMaps.keyOf_string_mk Try.underlying9 h]; rfl
theorem zeroNone (w : World) : (zeroValue 88).run Try.prog w = .ok (.agg #[]) w := by kernel_rfl
/-- The texts that a map met holds. -/
def metS (l : List ByteArray) (s : ByteArray) : Option Unit := if l.any (fun x => decide (x = s)) then some () else none
def encU (_ : Unit) : Value := .agg #[]
/-- May this list of data be? -/
def dataOk (l : List ByteArray) : Bool := decide (l.Nodup) && l.all (fun x => decide (x.size ≤ 65535))
def sets_Check.f (a0_0 : ByteArray) (a0_1 : Int) (a0_2 : Int) (a0_3 : Int) (l0_4 : List ByteArray) : Option (Int) :=
  if ∀ x ∈ l0_4, x.size ≤ 9223372036854775807 then
    (name_Check.f a0_0).bind fun c => if c = 0 ∧ 0 ≤ a0_1 ∧ a0_1 ≤ 65535 ∧ 0 ≤ a0_2 ∧ a0_2 ≤ 65535 ∧ 0 ≤ a0_3 ∧ a0_3 < 2147483648 ∧ 1 ≤ l0_4.length ∧ l0_4.length ≤ 64 ∧ dataOk l0_4 = true then some 0 else some 2
  else none
def dataTo (l : List ByteArray) (k : Nat) : Bool := dataOk (l.take k)
theorem dataTo_succ (l : List ByteArray) (k : Nat) (h : k < l.length) : dataTo l (k + 1) = (dataTo l k && !(metS (l.take k) l[k]).isSome && decide (l[k].size ≤ 65535)) := by
  unfold dataTo dataOk metS
  rw [List.take_succ_eq_append_getElem h, List.all_append, List.all_cons, List.all_nil, Bool.and_true]
  have hn : decide ((l.take k ++ [l[k]]).Nodup) = (decide (l.take k).Nodup && !(l.take k).any (fun x => decide (x = l[k]))) := by
    rw [Bool.eq_iff_iff]
    simp only [List.nodup_append, decide_eq_true_eq, Bool.and_eq_true, Bool.not_eq_true', List.any_eq_false]
    constructor
    · rintro ⟨h1, _, h3⟩
      exact ⟨h1, fun x hx => by simpa using h3 x hx l[k] (by simp)⟩
    · rintro ⟨h1, h2⟩
      exact ⟨h1, by simp, fun a ha b hb => by rw [List.mem_singleton.1 hb]; simpa using h2 a ha⟩
  rw [hn]
  cases (l.take k).any (fun x => decide (x = l[k])) <;> cases decide (l.take k).Nodup <;> simp
theorem metS_succ (l : List ByteArray) (k : Nat) (h : k < l.length) : metS (l.take (k + 1)) l[k] = some () ∧ ∀ s, s ≠ l[k] → metS (l.take (k + 1)) s = metS (l.take k) s := by
  unfold metS
  rw [List.take_succ_eq_append_getElem h]
  refine ⟨by rw [List.any_append, List.any_cons, decide_eq_true rfl, Bool.true_or, Bool.or_true]; rfl, fun s hs => ?_⟩
  rw [List.any_append, List.any_cons, List.any_nil, decide_eq_false (Ne.symm hs), Bool.false_or, Bool.or_false]
theorem dataTo_false (l : List ByteArray) (k : Nat) (h : dataTo l k = false) : ∀ m, k ≤ m → m ≤ l.length → dataTo l m = false := by
  intro m hk
  induction m with
  | zero => intro _; rwa [Nat.le_zero.1 hk] at h
  | succ m ih =>
    intro hm
    rcases Nat.lt_or_ge k (m + 1) with h1 | h1
    · rw [dataTo_succ l m (by omega), ih (by omega) (by omega)]; rfl
    · rwa [show m + 1 = k from by omega]

theorem below_grown_map {w A B : World} {b : Nat} (h : Below w.heap.size w A) (hg : A.grownBy B (some b)) (hb : w.heap.size ≤ b) : Below w.heap.size w B := h.grown hg h.size (fun k e => by cases e; exact hb)
def shortB (n : Int) : Bool := decide (0 ≤ n) && decide (n ≤ 65535)
set_option maxHeartbeats 4000000 in
set_option maxRecDepth 100000 in
theorem short_calls (n : Int) (w : World) : Calls Try.prog 68 #[.int .i64 n] w fun e w' => e = .returned (.bool (shortB n)) ∧ Drawn0 w w' := by
  unfold shortB
  by_cases h1 : 0 ≤ n
  · by_cases h2 : n ≤ 65535
    all_goals
      go_enter Try.func68, Try.ntmps68
      go_wp2
      go_ret
      exact ⟨by simp [h1, h2], by repeat (first | exact Drawn0.refl _ | apply Drawn0.step)⟩
  · go_enter Try.func68, Try.ntmps68
    go_wp2
    go_ret
    exact ⟨by simp [h1]; intro; omega, by repeat (first | exact Drawn0.refl _ | apply Drawn0.step)⟩
theorem short_true {n : Int} (h1 : 0 ≤ n) (h2 : n ≤ 65535) : shortB n = true := by unfold shortB; simp [h1, h2]
theorem short_false {n : Int} (h : ¬ (0 ≤ n ∧ n ≤ 65535)) : shortB n = false := by unfold shortB; rw [Bool.and_eq_false_iff]; by_cases h1 : 0 ≤ n; exact Or.inr (decide_eq_false (fun h2 => h ⟨h1, h2⟩)); exact Or.inl (decide_eq_false h1)

set_option maxHeartbeats 4000000 in
set_option maxRecDepth 100000 in
theorem sets_Check.calls (a0_0 : ByteArray) (a0_1 : Int) (a0_2 : Int) (a0_3 : Int) (A0_4 : Option Addr) (c0_4 : Nat) (l0_4 : List ByteArray) (r : Int) (w : World) (hr0_4 : Kd.C Kd.string w A0_4 l0_4.length l0_4) (hc0_4 : l0_4.length ≤ c0_4) (h : sets_Check.f a0_0 a0_1 a0_2 a0_3 l0_4 = some r) :
    Calls Try.prog 25 #[.agg #[.string a0_0, .int .i64 a0_1, .int .i64 a0_2, .int .i64 a0_3, .slice A0_4 l0_4.length c0_4]] w fun e w' => e = .returned (.int .i64 r) ∧ Below w.heap.size w w' := by
  unfold sets_Check.f at h
  split at h
  case isFalse => cases h
  rename_i hsz
  obtain ⟨c, hc, h⟩ := Option.bind_eq_some_iff.1 h
  have HR := Aside0.mk hr0_4
  have HSZ := Aside0.mk hsz
  have HN := Aside0.mk hc
  have HH := Aside0.mk h
  have hmm := @run_makeMap Try.prog
  clear hr0_4 hsz hc h
  go_enter Try.func25, Try.ntmps25
  go_upto_region 2 with fail
  have hX1 := World.alloc_heap_new w (.cells #[.string a0_0, .int .i64 a0_1, .int .i64 a0_2, .int .i64 a0_3, .slice A0_4 l0_4.length c0_4] 32)
  have HB1 := below_alloc (Below.refl w.heap.size w) (.cells #[.string a0_0, .int .i64 a0_1, .int .i64 a0_2, .int .i64 a0_3, .slice A0_4 l0_4.length c0_4] 32)
  generalize w.alloc (.cells #[.string a0_0, .int .i64 a0_1, .int .i64 a0_2, .int .i64 a0_3, .slice A0_4 l0_4.length c0_4] 32) = W1 at *
  have x0 : W1.cell? ⟨w.heap.size, 0, none⟩ = some (.string a0_0) := (blk_cell hX1 0).trans rfl
  have x1 : W1.cell? ⟨w.heap.size, 1, none⟩ = some (.int .i64 a0_1) := (blk_cell hX1 1).trans rfl
  have x2 : W1.cell? ⟨w.heap.size, 2, none⟩ = some (.int .i64 a0_2) := (blk_cell hX1 2).trans rfl
  have x3 : W1.cell? ⟨w.heap.size, 3, none⟩ = some (.int .i64 a0_3) := (blk_cell hX1 3).trans rfl
  have x4 : W1.cell? ⟨w.heap.size, 4, none⟩ = some (.slice A0_4 l0_4.length c0_4) := (blk_cell hX1 4).trans rfl
  have HX1 := Aside0.mk hX1
  have HBB := Aside0.mk HB1
  clear hX1 HB1
  by_cases h1 : c = 0
  case neg =>
    have h := HH.out
    rw [if_neg (fun hh => h1 hh.1)] at h
    obtain rfl := Option.some.inj h
    clear h
    go_wp2_with (first | (go_at_call 64; refine (name_Check.calls a0_0 c _ HN.out).mono ?_; rintro e W2 ⟨rfl, hb⟩; have HB2 := Aside0.mk (below_step HBB.out hb)))
    go_ret
    exact ⟨rfl, HB2.out⟩
  subst h1
  by_cases h2 : 0 ≤ a0_1 ∧ a0_1 ≤ 65535
  case neg =>
    have g1 := Aside0.mk (short_false h2)
    have h2' := Aside0.mk h2
    clear h2
    have h := HH.out
    rw [if_neg (fun hh => h2'.out ⟨hh.2.1, hh.2.2.1⟩)] at h
    obtain rfl := Option.some.inj h
    clear h
    go_wp2_with (first | (go_at_call 64; refine (name_Check.calls a0_0 0 _ HN.out).mono ?_; rintro e W2 ⟨rfl, hb⟩; have HB2 := Aside0.mk (below_step HBB.out hb); have z1 := pw_cell_below hb x1; have z2 := pw_cell_below hb x2; have z3 := pw_cell_below hb x3; have z4 := pw_cell_below hb x4; clear x0 x1 x2 x3 x4 hb) | (go_at_call 68; (with_reducible refine (short_calls a0_1 _).mono ?_); rintro e w' ⟨rfl, ⟨nd, rfl⟩⟩; rw [g1.out]))
    go_ret
    exact ⟨rfl, by repeat (first | exact HB2.out | apply pw_below_drewN | apply below_drew1)⟩
  have g1 := Aside0.mk (short_true h2.1 h2.2)
  have H2 := Aside0.mk h2
  clear h2
  by_cases h3 : 0 ≤ a0_2 ∧ a0_2 ≤ 65535
  case neg =>
    have g2 := Aside0.mk (short_false h3)
    have h3' := Aside0.mk h3
    clear h3
    have h := HH.out
    rw [if_neg (fun hh => h3'.out ⟨hh.2.2.2.1, hh.2.2.2.2.1⟩)] at h
    obtain rfl := Option.some.inj h
    clear h
    go_wp2_with (first | (go_at_call 64; refine (name_Check.calls a0_0 0 _ HN.out).mono ?_; rintro e W2 ⟨rfl, hb⟩; have HB2 := Aside0.mk (below_step HBB.out hb); have z1 := pw_cell_below hb x1; have z2 := pw_cell_below hb x2; have z3 := pw_cell_below hb x3; have z4 := pw_cell_below hb x4; clear x0 x1 x2 x3 x4 hb) | (go_at_call 68; (with_reducible refine (short_calls a0_1 _).mono ?_); rintro e w' ⟨rfl, ⟨nd, rfl⟩⟩; rw [g1.out]) | (go_at_call 68; (with_reducible refine (short_calls a0_2 _).mono ?_); rintro e w' ⟨rfl, ⟨nd, rfl⟩⟩; rw [g2.out]))
    go_ret
    exact ⟨rfl, by repeat (first | exact HB2.out | apply pw_below_drewN | apply below_drew1)⟩
  have g2 := Aside0.mk (short_true h3.1 h3.2)
  have H3 := Aside0.mk h3
  clear h3
  by_cases h4 : a0_3 < 0
  case pos =>
    have h4' := Aside0.mk h4
    have h := HH.out
    rw [if_neg (fun hh => by have := hh.2.2.2.2.2.1; have := h4'.out; omega)] at h
    obtain rfl := Option.some.inj h
    clear h
    go_wp2_with (first | (go_at_call 64; refine (name_Check.calls a0_0 0 _ HN.out).mono ?_; rintro e W2 ⟨rfl, hb⟩; have HB2 := Aside0.mk (below_step HBB.out hb); have z1 := pw_cell_below hb x1; have z2 := pw_cell_below hb x2; have z3 := pw_cell_below hb x3; have z4 := pw_cell_below hb x4; clear x0 x1 x2 x3 x4 hb) | (go_at_call 68; (with_reducible refine (short_calls a0_1 _).mono ?_); rintro e w' ⟨rfl, ⟨nd, rfl⟩⟩; rw [g1.out]) | (go_at_call 68; (with_reducible refine (short_calls a0_2 _).mono ?_); rintro e w' ⟨rfl, ⟨nd, rfl⟩⟩; rw [g2.out]))
    go_ret
    exact ⟨rfl, by repeat (first | exact HB2.out | apply pw_below_drewN | apply below_drew1)⟩
  by_cases h5 : 2147483648 ≤ a0_3
  case pos =>
    have h5' := Aside0.mk h5
    have h := HH.out
    rw [if_neg (fun hh => by have := hh.2.2.2.2.2.2.1; have := h5'.out; omega)] at h
    obtain rfl := Option.some.inj h
    clear h
    go_wp2_with (first | (go_at_call 64; refine (name_Check.calls a0_0 0 _ HN.out).mono ?_; rintro e W2 ⟨rfl, hb⟩; have HB2 := Aside0.mk (below_step HBB.out hb); have z1 := pw_cell_below hb x1; have z2 := pw_cell_below hb x2; have z3 := pw_cell_below hb x3; have z4 := pw_cell_below hb x4; clear x0 x1 x2 x3 x4 hb) | (go_at_call 68; (with_reducible refine (short_calls a0_1 _).mono ?_); rintro e w' ⟨rfl, ⟨nd, rfl⟩⟩; rw [g1.out]) | (go_at_call 68; (with_reducible refine (short_calls a0_2 _).mono ?_); rintro e w' ⟨rfl, ⟨nd, rfl⟩⟩; rw [g2.out]))
    go_ret
    exact ⟨rfl, by repeat (first | exact HB2.out | apply pw_below_drewN | apply below_drew1)⟩
  by_cases h6 : (l0_4.length : Int) < 1
  case pos =>
    have h6' := Aside0.mk h6
    have h := HH.out
    rw [if_neg (fun hh => by have := hh.2.2.2.2.2.2.2.1; have := h6'.out; omega)] at h
    obtain rfl := Option.some.inj h
    clear h
    go_wp2_with (first | (go_at_call 64; refine (name_Check.calls a0_0 0 _ HN.out).mono ?_; rintro e W2 ⟨rfl, hb⟩; have HB2 := Aside0.mk (below_step HBB.out hb); have z1 := pw_cell_below hb x1; have z2 := pw_cell_below hb x2; have z3 := pw_cell_below hb x3; have z4 := pw_cell_below hb x4; clear x0 x1 x2 x3 x4 hb) | (go_at_call 68; (with_reducible refine (short_calls a0_1 _).mono ?_); rintro e w' ⟨rfl, ⟨nd, rfl⟩⟩; rw [g1.out]) | (go_at_call 68; (with_reducible refine (short_calls a0_2 _).mono ?_); rintro e w' ⟨rfl, ⟨nd, rfl⟩⟩; rw [g2.out]))
    go_ret
    exact ⟨rfl, by repeat (first | exact HB2.out | apply pw_below_drewN | apply below_drew1)⟩
  by_cases h7 : 64 < (l0_4.length : Int)
  case pos =>
    have h7' := Aside0.mk h7
    have h := HH.out
    rw [if_neg (fun hh => by have := hh.2.2.2.2.2.2.2.2.1; have := h7'.out; omega)] at h
    obtain rfl := Option.some.inj h
    clear h
    go_wp2_with (first | (go_at_call 64; refine (name_Check.calls a0_0 0 _ HN.out).mono ?_; rintro e W2 ⟨rfl, hb⟩; have HB2 := Aside0.mk (below_step HBB.out hb); have z1 := pw_cell_below hb x1; have z2 := pw_cell_below hb x2; have z3 := pw_cell_below hb x3; have z4 := pw_cell_below hb x4; clear x0 x1 x2 x3 x4 hb) | (go_at_call 68; (with_reducible refine (short_calls a0_1 _).mono ?_); rintro e w' ⟨rfl, ⟨nd, rfl⟩⟩; rw [g1.out]) | (go_at_call 68; (with_reducible refine (short_calls a0_2 _).mono ?_); rintro e w' ⟨rfl, ⟨nd, rfl⟩⟩; rw [g2.out]))
    go_ret
    exact ⟨rfl, by repeat (first | exact HB2.out | apply pw_below_drewN | apply below_drew1)⟩
  go_upto_region 5 with (first | (go_at_call 64; refine (name_Check.calls a0_0 0 _ HN.out).mono ?_; rintro e W2 ⟨rfl, hb⟩; have HB2 := Aside0.mk (below_step HBB.out hb); have z1 := pw_cell_below hb x1; have z2 := pw_cell_below hb x2; have z3 := pw_cell_below hb x3; have z4 := pw_cell_below hb x4; clear x0 x1 x2 x3 x4 hb) | (go_at_call 68; (with_reducible refine (short_calls a0_1 _).mono ?_); rintro e w' ⟨rfl, ⟨nd, rfl⟩⟩; rw [g1.out]) | (go_at_call 68; (with_reducible refine (short_calls a0_2 _).mono ?_); rintro e w' ⟨rfl, ⟨nd, rfl⟩⟩; rw [g2.out]))
  have hr : Aside0 ((if dataOk l0_4 = true then some (0 : Int) else some 2) = some r) := ⟨by
    have h := HH.out
    split at h
    · rename_i hh
      rw [if_pos hh.2.2.2.2.2.2.2.2.2]
      exact h
    · rename_i hh
      rw [if_neg (fun hd => hh ⟨(by first | rfl | trivial), H2.out.1, H2.out.2, H3.out.1, H3.out.2, by omega, by omega, by omega, by omega, hd⟩)]
      exact h⟩
  have hl64 : l0_4.length ≤ 64 := by omega
  have hM3 : ∀ W : World, MapT Try.prog 9 Value.string encU (W.alloc (.map #[] 0)) W.heap.size 0 (metS (l0_4.take 0)) := fun W => (MapT.made W _ _ _ _).says (fun a _ => by rw [List.take_zero]; rfl)
  have hz5 : ∀ n, ((W2.drewN n).alloc (.map #[] 0)).cell? ⟨w.heap.size, 4, none⟩ = some (.slice A0_4 l0_4.length c0_4) := fun n => (World.cell?_alloc_lt (W2.drewN n) (.map #[] 0) ⟨w.heap.size, 4, none⟩ (World.block_lt_of_cell? W2 _ z4)).trans z4
  go_wp2
  go_loopw [2, 53] (fun v i wr => ∃ k : Nat, v = .int .i64 0 ∧ i = .int .i64 k ∧ k ≤ l0_4.length ∧ MapT Try.prog 9 Value.string encU wr W2.heap.size k (metS (l0_4.take k)) ∧ dataTo l0_4 k = true ∧ Below w.heap.size w wr) (fun _ i _ => l0_4.length - (intOf i).toNat)
  case atStart => exact ⟨0, rfl, rfl, Nat.zero_le _, hM3 _, rfl, by repeat (first | exact HB2.out | apply below_alloc | apply pw_below_drewN | apply below_drew1)⟩
  case round =>
    obtain ⟨k, rfl, rfl, hk, HM, HD, HB⟩ := hrel
    have HBx := Aside0.mk HB
    have HDx := Aside0.mk HD
    clear HB HD
    by_cases hlt : k < l0_4.length
    · obtain ⟨ad, rfl, hcell⟩ := Kd.at_string (Kd.C_below HR.out HBx.out) (k : Int) (by omega) (by omega)
      rw [Int.toNat_natCast] at hcell
      have hrd : rdOf ByteArray.empty l0_4 (k : Int) = l0_4[k] := by simp [rdOf, List.getD_eq_getElem?_getD, List.getElem?_eq_getElem hlt]
      rw [hrd] at hcell
      have hkk : (keyOf Try.prog 9 (.string l0_4[k])).isSome = true := keyS_some _ (HSZ.out _ (List.getElem_mem _))
      have HS := Aside0.mk (metS_succ l0_4 k hlt)
      have HDS := Aside0.mk (dataTo_succ l0_4 k hlt)
      have HK := Aside0.mk hkk
      clear hkk hrd
      generalize l0_4[k] = s at *
      cases hf : metS (l0_4.take k) s with
      | some u =>
        cases u
        have hd : dataOk l0_4 = false := by
          have h1 : dataTo l0_4 (k + 1) = false := by rw [HDS.out, hf]; simp
          have := dataTo_false l0_4 (k + 1) h1 l0_4.length hlt (Nat.le_refl _)
          unfold dataTo at this
          rwa [List.take_length] at this
        have h := hr.out
        rw [if_neg (by rw [hd]; decide)] at h
        obtain rfl := Option.some.inj h
        have HF := Aside0.mk hf
        clear hf h hd hr
        go_wp2_with (first | (at_lookup; refine wpList_look _ rfl _ _ 87 rfl HM keyedS Try.underlying87 (zeroNone _) rfl s rfl HK.out ?_; rw [HF.out]; (try dsimp only [encU])))
        go_ret
        exact ⟨rfl, (by repeat (first | exact HBx.out | apply below_alloc | apply pw_below_drewN | apply below_drew1))⟩
      | none =>
        by_cases h8 : 65535 < (s.size : Int)
        case pos =>
          have hd : dataOk l0_4 = false := by
            have h1 : dataTo l0_4 (k + 1) = false := by rw [HDS.out, decide_eq_false (by omega)]; simp
            have := dataTo_false l0_4 (k + 1) h1 l0_4.length hlt (Nat.le_refl _)
            unfold dataTo at this
            rwa [List.take_length] at this
          have h := hr.out
          rw [if_neg (by rw [hd]; decide)] at h
          obtain rfl := Option.some.inj h
          have HF := Aside0.mk hf
          clear hf h hd hr
          go_wp2_with (first | (at_lookup; refine wpList_look _ rfl _ _ 87 rfl HM keyedS Try.underlying87 (zeroNone _) rfl s rfl HK.out ?_; rw [HF.out]; (try dsimp only [encU])))
          go_ret
          exact ⟨rfl, (by repeat (first | exact HBx.out | apply below_alloc | apply pw_below_drewN | apply below_drew1))⟩
        have hD1 : dataTo l0_4 (k + 1) = true := by rw [HDS.out, HDx.out, hf, decide_eq_true (by omega)]; rfl
        have HD1 := Aside0.mk hD1
        have HF := Aside0.mk hf
        have HM2 := HM.alloc (.cells #[] 88)
        have HBA := Aside0.mk (below_alloc HBx.out (.cells #[] 88))
        have hn : k < maxLen := by unfold maxLen; omega
        have HSo : Aside0 (∀ a', Value.string a' ≠ Value.string s → metS (l0_4.take (k + 1)) a' = metS (l0_4.take k) a') := ⟨fun a' h => HS.out.2 a' (fun e => h (by rw [e]))⟩
        have HSi : Aside0 (∀ a', Value.string a' = Value.string s → metS (l0_4.take (k + 1)) a' = metS (l0_4.take (k + 1)) s) := ⟨fun a' h => congrArg _ (Value.string.inj h)⟩
        clear hf hD1
        go_wp2_with (first | (at_lookup; refine wpList_look _ rfl _ _ 87 rfl HM keyedS Try.underlying87 (zeroNone _) rfl s rfl HK.out ?_; rw [HF.out]; (try dsimp only [encU])) | (at_mapUpdate; refine wpList_store _ rfl _ _ _ 87 rfl HM2 keyedS Try.underlying87 hn rfl s rfl HK.out () rfl (metS (l0_4.take (k + 1))) HS.out.1 HSo.out HSi.out ?_; intro W3 hM5 hT3; have HB3 := Aside0.mk (below_grown_map HBA.out hT3.grown HB2.out.size)))
        go_roundw
        case rel => exact ⟨k + 1, rfl, by go_num, by omega, hM5, HD1.out, HB3.out⟩
        case measure => simp [intOf]; omega
    · obtain rfl : k = l0_4.length := by omega
      have hd : dataOk l0_4 = true := by have := HDx.out; unfold dataTo at this; rwa [List.take_length] at this
      have h := hr.out
      rw [if_pos hd] at h
      obtain rfl := Option.some.inj h
      clear h
      go_wp2
      go_ret
      exact ⟨rfl, HBx.out⟩
end Go.Proofs.Ytdkecfjeiookdaa.PA
