/- Contracts by hand: a name's labels, by the iterator over them. -/
import Derived.Lib.Hide
import Derived.Shelf.Abstract
import Derived.Shelf.RegionOpen
import Derived.OwnWalkIn
import Derived.TacticsInMore
import Derived.LoopNIn
import Derived.LoopIn
import Derived.Sort.QuietIn
import Derived.Test.YtdkecfjeiookdaaGrIT
import Derived.Test.YtdkecfjeiookdaaGrPAx0
namespace Go.Proofs.Ytdkecfjeiookdaa.PA
open Go.RowKit Go.Shelf Go.Proofs.YtdkecfjeiookdaaW.PrintWords Go.Proofs.YtdkecfjeiookdaaW.PrintLast Go.Proofs.YtdkecfjeiookdaaW.PrintMore Go.Proofs.Ytdkecfjeiookdaa.Iter
set_option linter.unusedVariables false
set_option linter.unusedSimpArgs false
attribute [local go_sem] Oper.semAt_some

/-- What all tells of a text: its labels one by one, and at last ("", false) if it is no name. -/
def labs (s : ByteArray) : List (ByteArray × Bool) :=
  if s.toList = [0] then []
  else if s.size = 0 ∨ bt s 0 = 0 ∨ bt s 0 > 63 ∨ bt s 0 ≥ s.size then [(⟨#[]⟩, false)]
  else (s.extract 1 (1 + (bt s 0).toNat), true) :: labs (s.extract (1 + (bt s 0).toNat) s.size)
termination_by s.size
decreasing_by
  rename_i h1 h2
  rw [ByteArray.size_extract]
  have := bt_range s 0
  omega

/-- The text that the iterator's box holds. -/
def heldText (W : World) (g : Nat) : Nat := match W.cell? ⟨g, 0, none⟩ with
  | some (.string s) => s.size
  | _ => 0

theorem grown_drewN (w : World) (n : Nat) (row : Option Nat) : w.grownBy (w.drewN n) row := ⟨rfl, rfl, rfl, Nat.le_refl _, fun _ _ _ => rfl⟩
/-- A round, whichever way it ends, in one form. -/
theorem yield_one {F : Fence} {m : Nat} {P : Program} {l : Nat} {args : Array Value} {W : World} {R1 R2 : World → Prop} (h : YieldAt F m P l args W fun e W' => (e = .returned (.bool true) ∧ R1 W') ∨ (e = .returned (.bool false) ∧ R2 W')) :
    YieldAt F m P l args W fun e W' => ∃ b : Bool, e = .returned (.bool b) ∧ Hid ((b = true ∧ R1 W') ∨ (b = false ∧ R2 W')) :=
  h.mono fun e W' hr => by
    rcases hr with ⟨rfl, h⟩ | ⟨rfl, h⟩
    · exact ⟨true, rfl, Lib.hid (.inl ⟨rfl, h⟩)⟩
    · exact ⟨false, rfl, Lib.hid (.inr ⟨rfl, h⟩)⟩

theorem heldText_eq {W : World} {g t : Nat} {s : ByteArray} (h : Boxed W g t (.string s)) : heldText W g = s.size := by
  unfold heldText
  rw [h.cell]
theorem grown_drew_set (w : World) (g : Nat) (v : Value) : w.grownBy (w.drew.setCell ⟨g, 0, none⟩ v) (some g) :=
  ⟨rfl, rfl, rfl, (KeepsWalks.setCell w.drew _ v).size, fun k _ hk => Below.heap_setCell w.drew _ v k (fun e => hk (by rw [e]))⟩

def encsL (x : ByteArray × Bool) : Array Value := #[.string x.1, .bool x.2]

set_option maxRecDepth 100000 in
set_option maxHeartbeats 2000000 in
theorem name_all1_in (n : Nat) (hn : 1 ≤ n) (g : Nat) (s0 : ByteArray) (hs0 : s0.size ≤ 140737488355328) (w : World) (hb : Boxed w g 9 (.string s0)) :
    SeqBox Fence.wide n Try.prog 140 #[.pointer (some ⟨g, 0, none⟩)] encsL g (fun xs => xs = labs s0) (fun pre => pre <+: labs s0) (fun pre x => pre ++ [x] <+: labs s0) w := by
  intro l J Jx W hW hJ hJx hY h0
  replace hb : Boxed W g 9 (.string s0) := hW.trans hb
  clear hW
  refine callsIn_of_wp Try.func140 rfl trivial ?_ rfl
  simp only [Try.ntmps140, List.size_toArray, List.length_cons, List.length_nil, Nat.reduceAdd, Nat.reduceSub, Array.replicate_succ, Array.replicate_zero, List.push_toArray, List.append_toArray, List.nil_append, List.cons_append]
  gi_wp2
  gi_loopw [4] (fun _ wr => ∃ (pre : List (ByteArray × Bool)) (s : ByteArray), labs s0 = pre ++ labs s ∧ s.size ≤ s0.size ∧ Boxed wr g 9 (.string s) ∧ J pre wr) (fun _ wr => heldText wr g)
  case atStart => exact ⟨[], s0, rfl, Nat.le_refl _, hb, h0⟩
  case round =>
    obtain ⟨pre, s, hl, hle, hB, hJs⟩ := hrel
    have hc := hB.cell
    have HM := Lib.hid (heldText_eq hB)
    by_cases hr : s.toList = [0]
    · gi_wp2
      refine bodyPost_ret (results_none rfl _ _ _) rfl ?_
      exact ⟨⟨_, rfl⟩, .inl ⟨pre, by rw [hl, labs, if_pos hr, List.append_nil], hJs⟩⟩
    · have hr0 : (s.toList == [0]) = false := by simpa using hr
      have hx0 : ∀ h : 0 < s.size, ((s[0]'h).toNat : Int) = bt s 0 := bt_at s 0
      by_cases h1 : s.size = 0
      · have HL := Lib.hid hl
        have HR := Lib.hid hr
        clear hl hr
        have h1' : ((s.size : Int) == 0) = true := by simp [h1]
        have H1 := Lib.hid h1
        clear h1
        gi_wp2
        gi_quiet (fail)
        rename_i nq
        obtain ⟨fn, tmps, assign, body, hy, hR⟩ := hY pre (⟨#[]⟩, false) (wr.drewN nq) (hJ _ _ _ none hJs (grown_drewN _ _ _) (.inl rfl)) (by rw [HL.out, labs, if_neg HR.out, if_pos (.inl H1.out)]; exact List.prefix_rfl)
        dsimp only [encsL] at hy
        gi_wp2
        refine hR.mono ?_
        rintro e W3 (⟨rfl, hJ3, hk3⟩ | ⟨rfl, hJx3⟩)
        · gi_wp2
          refine bodyPost_ret (results_none rfl _ _ _) rfl ?_
          exact ⟨⟨_, rfl⟩, .inl ⟨_, by rw [HL.out, labs, if_neg HR.out, if_pos (.inl H1.out)], hJ3⟩⟩
        · gi_wp2
          refine bodyPost_ret (results_none rfl _ _ _) rfl ?_
          exact ⟨⟨_, rfl⟩, .inr ⟨_, by rw [HL.out, labs, if_neg HR.out, if_pos (.inl H1.out)]; exact List.prefix_rfl, hJx3⟩⟩
      · have h0s : 0 < s.size := by omega
        have hb0 := bt_range s 0
        have b1 : ((s.size : Int) == 0) = false := by simp [h1]
        by_cases hgood : ¬ (bt s 0 = 0 ∨ bt s 0 > 63 ∨ bt s 0 ≥ s.size)
        · have g0 : ¬ bt s 0 = 0 := fun h => hgood (.inl h)
          have g1 : bt s 0 ≤ 63 := by omega
          have g2 : bt s 0 < s.size := by omega
          have g3 : 1 ≤ bt s 0 := by omega
          have b2 : (bt s 0 == 0) = false := beq_eq_false_iff_ne.2 g0
          have b3 : decide (63 < bt s 0) = false := decide_eq_false (by omega)
          have b4 : decide ((s.size : Int) ≤ bt s 0) = false := decide_eq_false (by omega)
          have hl2 : labs s = (s.extract 1 (1 + (bt s 0).toNat), true) :: labs (s.extract (1 + (bt s 0).toNat) s.size) := by rw [labs, if_neg hr, if_neg (by omega)]
          have HL := Lib.hid (hl.trans (by rw [hl2]))
          have HR := Lib.hid hr
          have HG := Lib.hid hgood
          clear hl hr hgood hl2 g0
          gi_wp2
          gi_quiet (fail)
          rename_i nq
          obtain ⟨fn, tmps, assign, body, hy, hR⟩ := yield_one (hY pre (s.extract 1 (1 + (bt s 0).toNat), true) (wr.drewN (nq + 1)) (hJ _ _ _ none hJs (grown_drewN _ _ _) (.inl rfl)) (by rw [HL.out]; exact ⟨labs (s.extract (1 + (bt s 0).toNat) s.size), by simp⟩))
          dsimp only [encsL] at hy
          gi_wp2
          have hmx : Try.prog.follows .mixedOrders = true := by kernel_rfl
          have w1 : IntKind.i64.wrap (bt s 0) = bt s 0 := IntWalk.i64_in _ (by omega)
          have w2 : IntKind.i64.wrap (1 + bt s 0) = 1 + bt s 0 := IntWalk.i64_in _ (by omega)
          have w3 : (0 : Int) ≤ 1 + bt s 0 := by omega
          have w4 : (1 : Int) ≤ 1 + bt s 0 := by omega
          have w5 : 1 + bt s 0 ≤ s.size := by omega
          have w6 : (1 + bt s 0).toNat = 1 + (bt s 0).toNat := by omega
          gi_region_with_o (refine hR.mono ?_; rintro e W3 ⟨b, rfl, hP⟩)
          all_goals
            rcases hP.out with ⟨rfl, hJ3, hk3⟩ | ⟨rfl, hJx3⟩
            · have hB3 : Boxed W3 g 9 (.string s) := hk3.2.trans hB
              have hc3 := hB3.cell
              have hf3 := hB3.frozen
              clear hP hc hB hJs hy hR
              gi_wp2
              gi_region_with_o (fail)
              all_goals
                gi_wp2
                go_roundw
                case rel => exact ⟨pre ++ [_], s.extract (1 + (bt s 0).toNat) s.size, by rw [HL.out]; simp, by rw [ByteArray.size_extract]; omega, (show Boxed W3.drew g 9 (.string s) from hB3).set _, hJ _ _ _ (some g) hJ3 (grown_drew_set _ _ _) (.inr rfl)⟩
                case measure =>
                  rw [heldText_eq (show Boxed (W3.setCell ⟨g, 0, none⟩ (.string (s.extract (1 + (bt s 0).toNat) s.size))).drew g 9 (.string (s.extract (1 + (bt s 0).toNat) s.size)) from hB3.set _), HM.out, ByteArray.size_extract]
                  omega
            · gi_wp2
              refine bodyPost_ret (results_none rfl _ _ _) rfl ?_
              exact ⟨⟨_, rfl⟩, .inr ⟨_, by rw [HL.out]; exact ⟨labs (s.extract (1 + (bt s 0).toNat) s.size), by simp⟩, hJx3⟩⟩
        · have hbad : bt s 0 = 0 ∨ bt s 0 > 63 ∨ bt s 0 ≥ s.size := Decidable.not_not.1 hgood
          have hl2 : labs s = [(⟨#[]⟩, false)] := by rw [labs, if_neg hr, if_pos (.inr hbad)]
          have HL := Lib.hid (hl.trans (by rw [hl2]))
          have HR := Lib.hid hr
          clear hl hr hgood hl2
          by_cases g0 : bt s 0 = 0
          · have b2 : (bt s 0 == 0) = true := beq_iff_eq.2 g0
            clear hbad g0
            gi_wp2
            gi_quiet (fail)
            rename_i nq
            obtain ⟨fn, tmps, assign, body, hy, hR⟩ := hY pre (⟨#[]⟩, false) (wr.drewN nq) (hJ _ _ _ none hJs (grown_drewN _ _ _) (.inl rfl)) (by rw [HL.out]; exact List.prefix_rfl)
            dsimp only [encsL] at hy
            gi_wp2
            refine hR.mono ?_
            rintro e W3 (⟨rfl, hJ3, hk3⟩ | ⟨rfl, hJx3⟩)
            · gi_wp2
              refine bodyPost_ret (results_none rfl _ _ _) rfl ?_
              exact ⟨⟨_, rfl⟩, .inl ⟨_, HL.out.symm, hJ3⟩⟩
            · gi_wp2
              refine bodyPost_ret (results_none rfl _ _ _) rfl ?_
              exact ⟨⟨_, rfl⟩, .inr ⟨_, by rw [HL.out]; exact List.prefix_rfl, hJx3⟩⟩
          · have b2 : (bt s 0 == 0) = false := beq_eq_false_iff_ne.2 g0
            by_cases g1 : bt s 0 > 63
            · have b3 : decide (63 < bt s 0) = true := decide_eq_true (by omega)
              clear hbad g0
              gi_wp2
              gi_quiet (fail)
              rename_i nq
              obtain ⟨fn, tmps, assign, body, hy, hR⟩ := hY pre (⟨#[]⟩, false) (wr.drewN nq) (hJ _ _ _ none hJs (grown_drewN _ _ _) (.inl rfl)) (by rw [HL.out]; exact List.prefix_rfl)
              dsimp only [encsL] at hy
              gi_wp2
              refine hR.mono ?_
              rintro e W3 (⟨rfl, hJ3, hk3⟩ | ⟨rfl, hJx3⟩)
              · gi_wp2
                refine bodyPost_ret (results_none rfl _ _ _) rfl ?_
                exact ⟨⟨_, rfl⟩, .inl ⟨_, HL.out.symm, hJ3⟩⟩
              · gi_wp2
                refine bodyPost_ret (results_none rfl _ _ _) rfl ?_
                exact ⟨⟨_, rfl⟩, .inr ⟨_, by rw [HL.out]; exact List.prefix_rfl, hJx3⟩⟩
            · have b3 : decide (63 < bt s 0) = false := decide_eq_false (by omega)
              have b4 : decide ((s.size : Int) ≤ bt s 0) = true := decide_eq_true (by omega)
              clear hbad g0
              gi_wp2
              gi_quiet (fail)
              rename_i nq
              obtain ⟨fn, tmps, assign, body, hy, hR⟩ := hY pre (⟨#[]⟩, false) (wr.drewN nq) (hJ _ _ _ none hJs (grown_drewN _ _ _) (.inl rfl)) (by rw [HL.out]; exact List.prefix_rfl)
              dsimp only [encsL] at hy
              gi_wp2
              refine hR.mono ?_
              rintro e W3 (⟨rfl, hJ3, hk3⟩ | ⟨rfl, hJx3⟩)
              · gi_wp2
                refine bodyPost_ret (results_none rfl _ _ _) rfl ?_
                exact ⟨⟨_, rfl⟩, .inl ⟨_, HL.out.symm, hJ3⟩⟩
              · gi_wp2
                refine bodyPost_ret (results_none rfl _ _ _) rfl ?_
                exact ⟨⟨_, rfl⟩, .inr ⟨_, by rw [HL.out]; exact List.prefix_rfl, hJx3⟩⟩

set_option maxHeartbeats 1000000 in
theorem name_all_calls (s : ByteArray) (w : World) : Calls Try.prog 123 #[.string s] w fun e w' => e = .returned (.func (.func 140) #[] #[.pointer (some ⟨w.heap.size, 0, none⟩)]) ∧ w' = w.alloc (.cells #[.string s] 9) := by
  go_enter Try.func123, Try.ntmps123
  go_wp2
  go_ret
  exact ⟨rfl, rfl⟩

#print axioms name_all1_in
end Go.Proofs.Ytdkecfjeiookdaa.PA
