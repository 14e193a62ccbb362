/- Contracts by hand: ostiarylaw20.any, whens. -/
import Derived.Test.YtafndajnncfpkaaTQ
namespace Go.Proofs.Ytafndajnncfpkaa.Tw
open Go Go.RowKit Go.Maps Go.Sort Go.Shelf Go.Proofs.YtafndajnncfpkaaW.PrintWords Go.Proofs.YtafndajnncfpkaaW.PrintLast Go.Proofs.YtafndajnncfpkaaW.PrintMore Go.Proofs.Ytafndajnncfpkaa.Mp Go.Proofs.Ytafndajnncfpkaa.Tm Go.Proofs.Ytafndajnncfpkaa.Tb Go.Proofs.Ytafndajnncfpkaa.Tc Go.Proofs.Ytafndajnncfpkaa.Ti Go.Proofs.Ytafndajnncfpkaa.Tg Go.Proofs.Ytafndajnncfpkaa.Tt Go.Proofs.Ytafndajnncfpkaa.Ts Go.Proofs.Ytafndajnncfpkaa.Tz Go.Proofs.Ytafndajnncfpkaa.Tq
set_option linter.unusedVariables false
set_option linter.unusedSimpArgs false
/-- A map of numbers to bools; at a lacking key it says false. -/
def BMap (W : World) (b n : Nat) (f : Int → Option Bool) : Prop := MapT Try.prog 3 (Value.int .i64) Value.bool W b n f
/-- A map of numbers to numbers. -/
def NMap (W : World) (b n : Nat) (f : Int → Option Int) : Prop := MapT Try.prog 3 (Value.int .i64) (Value.int .i64) W b n f
theorem bmap_look {W : World} {b n : Nat} {f : Int → Option Bool} (h : BMap W b n f) {k : Int} (hk : wfI k) : (Instr.lookup 56 (.map (some b)) (.int .i64 k) false).run Try.prog W = .ok (.bool ((f k).getD false)) W := by
  have := MapT.look1 h keyedI Try.underlying56 (z := .bool false) (by kernel_rfl) (a := k) (by rw [keyZ hk]; rfl)
  rw [this]
  cases f k <;> rfl
theorem nmap_look {W : World} {b n : Nat} {f : Int → Option Int} (h : NMap W b n f) {k : Int} (hk : wfI k) : (Instr.lookup 57 (.map (some b)) (.int .i64 k) false).run Try.prog W = .ok (.int .i64 ((f k).getD 0)) W := by
  have := MapT.look1 h keyedI Try.underlying57 (z := .int .i64 0) (by kernel_rfl) (a := k) (by rw [keyZ hk]; rfl)
  rw [this]
  cases f k <;> rfl
set_option maxRecDepth 100000 in
set_option maxHeartbeats 1000000 in
theorem any_c (A : Option Addr) (c b n : Nat) (l : List Int) (f : Int → Option Bool) (w : World) (h1 : IntsAt w A l) (b1 : l.length ≤ maxLen) (hw : ∀ k ∈ l, wfI k) (hM : BMap w b n f) : Calls Try.prog 24 #[.slice A l.length c, .map (some b)] w fun e w' => e = .returned (.bool (l.any fun k => (f k).getD false)) ∧ w = w' := by
  have H1 := Lib.hid h1
  have HW := Lib.hid hw
  have HM := Lib.hid hM
  generalize hr : (l.any fun k => (f k).getD false) = r
  have HR := Lib.hid hr
  clear h1 hw hM hr
  go_enter Try.func24, Try.ntmps24
  go_wp2
  go_loopg [5] l.length (fun kq v wr => ∃ i : Nat, i + kq = l.length ∧ v = .int .i64 (i : Int) ∧ w = wr ∧ ∀ j, (h : j < l.length) → j < i → (f l[j]).getD false = false)
  case atStart => exact ⟨0, by omega, rfl, rfl, fun j _ h => absurd h (by omega)⟩
  case round =>
    obtain ⟨i, hi, rfl, rfl, hS⟩ := hrel
    have HS := Lib.hid hS
    clear hS
    by_cases hiq : i < l.length
    · obtain ⟨k, rfl⟩ : ∃ k, gk = k + 1 := ⟨gk - 1, by omega⟩
      have d1 : decide ((i : Int) < (l.length : Int)) = true := decide_eq_true (by omega)
      obtain ⟨ad1, e1, x1⟩ := H1.out i hiq
      have p1 : (0 ≤ (i : Int)) = True := eq_true (by omega)
      have q1 : ((i : Int) < (l.length : Int)) = True := eq_true (by omega)
      have hlk := bmap_look HM.out (HW.out l[i] (List.getElem_mem hiq))
      cases hx : (f l[i]).getD false
      · have HX := Lib.hid (show ∀ j, (h : j < l.length) → j < i + 1 → (f l[j]).getD false = false from fun j h hj => by
          by_cases hji : j = i
          · subst hji
            exact hx
          · exact HS.out j h (by omega))
        rw [hx] at hlk
        clear hx
        generalize l[i] = y1 at *
        cases e1
        go_wp2
        go_roundg k
        case measure => omega
        case rel => exact ⟨i + 1, by omega, congrArg (Value.int .i64) (by unfold wrap64; unfold maxLen at b1; omega), rfl, HX.out⟩
      · have hne : r = true := by
          rw [← HR.out, List.any_eq_true]
          exact ⟨_, List.getElem_mem hiq, hx⟩
        rw [hx] at hlk
        clear hx
        generalize l[i] = y1 at *
        cases e1
        go_wp2
        go_ret
        exact ⟨by rw [hne]; rfl, rfl⟩
    · have d1 : decide ((i : Int) < (l.length : Int)) = false := decide_eq_false (by omega)
      have hne : r = false := by
        rw [← HR.out, List.any_eq_false]
        intro x hx
        obtain ⟨j, hj, rfl⟩ := List.mem_iff_getElem.1 hx
        rw [HS.out j hj (by omega)]
        exact Bool.false_ne_true
      go_wp2
      go_ret
      exact ⟨by rw [hne]; rfl, rfl⟩
/-- What whens tells of the first i numbers. -/
def whensF (L : List Cl) (l : List Int) (i : Nat) (k : Int) : Option Int := if k ∈ l.take i then some (atOf L k) else none
theorem nmap_new (w : World) : NMap (w.alloc (.map #[] 0)) w.heap.size 0 (fun _ => none) := MapT.made w _ _ _ _
set_option maxRecDepth 100000 in
set_option maxHeartbeats 1000000 in
theorem whens_c (T b n : Nat) (most : Int) (L : List Cl) (A : Option Addr) (c : Nat) (l : List Int) (w : World) (hT : St w T b n most L) (h1 : IntsAt w A l) (b1 : l.length ≤ 100000) (hw : ∀ k ∈ l, wfI k) : Calls Try.prog 23 #[.pointer (some ⟨T, 0, none⟩), .slice A l.length c] w fun e w' => ∃ m : Nat, e = .returned (.map (some m)) ∧ NMap w' m l.length (whensF L l l.length) ∧ w.heap.size ≤ m ∧ Below w.heap.size w w' := by
  have H1 := Lib.hid h1
  have HW := Lib.hid hw
  have HT := Lib.hid hT
  clear h1 hw hT
  have hmm := @run_makeMap Try.prog
  go_enter Try.func23, Try.ntmps23
  go_wp2
  have hB0 : Below w.heap.size w (w.alloc (.map #[] 0)) := (Below.refl _ _).alloc (Nat.le_refl _) _
  have hN0 := nmap_new w
  have hle : w.heap.size ≤ w.heap.size := Nat.le_refl _
  generalize hm : w.heap.size = m at hN0 hle ⊢
  go_loopg [6] l.length (fun kq v wr => ∃ i : Nat, i + kq = l.length ∧ v = .int .i64 (i : Int) ∧ NMap wr m i (whensF L l i) ∧ Below w.heap.size w wr)
  case atStart => exact ⟨0, by omega, rfl, MapT.says hN0 (fun a _ => by simp [whensF]), hB0⟩
  case round =>
    obtain ⟨i, hi, rfl, hN, hB⟩ := hrel
    have HB := Lib.hid hB
    have HN := Lib.hid hN
    clear hB hN
    by_cases hiq : i < l.length
    · obtain ⟨k, rfl⟩ : ∃ k, gk = k + 1 := ⟨gk - 1, by omega⟩
      have d1 : decide ((i : Int) < (l.length : Int)) = true := decide_eq_true (by omega)
      obtain ⟨ad1, e1, x0⟩ := H1.out i hiq
      have x1 := (HB.out.cell (World.block_lt_of_cell? _ _ x0)).trans x0
      have hlt : (ad1.add i).block < w.heap.size := World.block_lt_of_cell? _ _ x0
      have p1 : (0 ≤ (i : Int)) = True := eq_true (by omega)
      have q1 : ((i : Int) < (l.length : Int)) = True := eq_true (by omega)
      have hwk := Lib.hid (HW.out l[i] (List.getElem_mem hiq))
      have htk := Lib.hid (show l.take (i + 1) = l.take i ++ [l[i]] from List.take_succ_eq_append_getElem hiq)
      have HTr := Lib.hid (HT.out.below HB.out)
      clear x0
      generalize l[i] = y1 at *
      cases e1
      go_wp2_with (first
        | (go_at_call 17; (with_reducible refine (when_st HTr.out y1 hwk.out).mono ?_); rintro e w2 ⟨rfl, hb⟩; have x2 := (hb.cell (World.block_lt_of_cell? _ _ x1)).trans x1; have HN2 := Lib.hid (MapT.below HN.out hb); have HB2 := Lib.hid (below_then HB.out HB.out.size hb); clear hb x1)
        | (at_mapUpdate; refine wpList_store _ rfl _ _ _ _ rfl HN2.out keyedI Try.underlying57 (small _ (by omega)) rfl y1 rfl (by rw [keyZ hwk.out]; rfl) (atOf L y1) rfl (whensF L l (i + 1)) (by simp [whensF, htk.out]) (fun a ha => by have : a ≠ y1 := fun e => ha (encI_inj.2 e); simp [whensF, htk.out, this]) (fun a ha => by rw [encI_inj.1 ha]) ?_; intro W5 hm5 hm6))
      go_roundg k
      case measure => omega
      case rel => exact ⟨i + 1, by omega, congrArg (Value.int .i64) (by first | (unfold wrap64; omega) | omega), hm5, below_row HB2.out hm6.grown (by omega)⟩
    · have d1 : decide ((i : Int) < (l.length : Int)) = false := decide_eq_false (by omega)
      have hie : i = l.length := by omega
      go_wp2
      go_ret
      exact ⟨m, rfl, by rw [← hie]; exact HN.out, by omega, HB.out⟩
end Go.Proofs.Ytafndajnncfpkaa.Tw
