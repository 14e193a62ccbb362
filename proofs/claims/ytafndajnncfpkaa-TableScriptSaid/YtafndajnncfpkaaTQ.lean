/- Contract by hand: ostiarykit.SameInts; rows of ints. -/
import Derived.Test.YtafndajnncfpkaaTZ
namespace Go.Proofs.Ytafndajnncfpkaa.Tq
open Go Go.RowKit Go.Maps Go.Sort Go.Shelf Go.Proofs.YtafndajnncfpkaaW.PrintWords Go.Proofs.YtafndajnncfpkaaW.PrintLast Go.Proofs.YtafndajnncfpkaaW.PrintMore Go.Proofs.Ytafndajnncfpkaa.Mp Go.Proofs.Ytafndajnncfpkaa.Tm Go.Proofs.Ytafndajnncfpkaa.Tb
set_option linter.unusedVariables false
set_option linter.unusedSimpArgs false
/-- The slice at A holds these ints. -/
def IntsAt (w : World) (A : Option Addr) (l : List Int) : Prop := ∀ j, (h : j < l.length) → ∃ ad, A = some ad ∧ w.cell? (ad.add j) = some (.int .i64 l[j])
set_option maxRecDepth 100000 in
set_option maxHeartbeats 1000000 in
theorem same_ints (A1 A2 : Option Addr) (c1 c2 : Nat) (l1 l2 : List Int) (w : World) (h1 : IntsAt w A1 l1) (h2 : IntsAt w A2 l2) (b1 : l1.length ≤ maxLen) (b2 : l2.length ≤ maxLen) : Calls Try.prog 21 #[.slice A1 l1.length c1, .slice A2 l2.length c2] w fun e w' => e = .returned (.bool (decide (l1 = l2))) ∧ ∃ q, w' = w.drewN q := by
  have H1 := Lib.hid h1
  have H2 := Lib.hid h2
  clear h1 h2
  generalize hr : decide (l1 = l2) = r
  have HR := Lib.hid hr
  clear hr
  by_cases hl : l1.length = l2.length
  · have d0 : ((l1.length : Int) != (l2.length : Int)) = false := by rw [hl]; simp
    have HL := Lib.hid hl
    clear hl
    go_enter Try.func21, Try.ntmps21
    go_wp2
    go_loopg [5] l1.length (fun kq v wr => ∃ i : Nat, i + kq = l1.length ∧ v = .int .i64 (i : Int) ∧ (∃ q, wr = w.drewN q) ∧ ∀ j, (h : j < l1.length) → j < i → l1[j] = l2[j]'(HL.out ▸ h))
    case atStart => exact ⟨0, by omega, rfl, ⟨0, rfl⟩, fun j _ h => absurd h (by omega)⟩
    case round =>
      obtain ⟨i, hi, rfl, ⟨q, rfl⟩, hS⟩ := hrel
      have HS := Lib.hid hS
      clear hS
      have hi2 : (i : Int) ≤ 9223372036854775806 ∨ True := Or.inr trivial
      by_cases hiq : i < l1.length
      · obtain ⟨k, rfl⟩ : ∃ k, gk = k + 1 := ⟨gk - 1, by omega⟩
        have hiq2 : i < l2.length := by rw [← HL.out]; exact hiq
        have d1 : decide ((i : Int) < (l1.length : Int)) = true := decide_eq_true (by omega)
        obtain ⟨ad1, e1, x1⟩ := H1.out i hiq
        obtain ⟨ad2, e2, x2⟩ := H2.out i hiq2
        have p1 : (0 ≤ (i : Int)) = True := eq_true (by omega)
        have q1 : ((i : Int) < (l1.length : Int)) = True := eq_true (by omega)
        have q2 : ((i : Int) < (l2.length : Int)) = True := eq_true (by have := HL.out; omega)
        by_cases hx : l1[i] = l2[i]
        · have d2 : (l1[i] != l2[i]) = false := by rw [hx]; simp
          have HX := Lib.hid (show ∀ j, (h : j < l1.length) → j < i + 1 → l1[j] = l2[j]'(HL.out ▸ h) from fun j h hj => by
            by_cases hji : j = i
            · subst hji
              exact hx
            · exact HS.out j h (by omega))
          generalize l1[i] = y1 at *
          generalize l2[i] = y2 at *
          cases e1
          cases e2
          go_upto_region 6 with fail
          go_region
          go_wp2
          go_roundg k
          case measure => omega
          case rel =>
            exact ⟨i + 1, by omega, congrArg (Value.int .i64) (by unfold wrap64; unfold maxLen at b1; omega), ⟨_, rfl⟩, HX.out⟩
        · have d2 : (l1[i] != l2[i]) = true := bne_iff_ne.2 hx
          have hne : r = false := by
            rw [← HR.out]
            exact decide_eq_false fun e => hx (by subst e; rfl)
          generalize l1[i] = y1 at *
          generalize l2[i] = y2 at *
          cases e1
          cases e2
          go_upto_region 6 with fail
          go_region
          go_wp2
          go_ret
          exact ⟨by rw [hne]; rfl, _, rfl⟩
      · have hie : i = l1.length := by omega
        have d1 : decide ((i : Int) < (l1.length : Int)) = false := decide_eq_false (by omega)
        have hne : r = true := by
          rw [← HR.out]
          exact decide_eq_true (List.ext_getElem HL.out fun j h _ => HS.out j h (by omega))
        go_wp2
        go_ret
        exact ⟨by rw [hne]; rfl, _, rfl⟩
  · have d0 : ((l1.length : Int) != (l2.length : Int)) = true := bne_iff_ne.2 (by omega)
    have hne : r = false := by
      rw [← HR.out]
      exact decide_eq_false fun e => hl (by rw [e])
    go_enter Try.func21, Try.ntmps21
    go_wp2
    go_ret
    exact ⟨by rw [hne]; rfl, 0, rfl⟩
end Go.Proofs.Ytafndajnncfpkaa.Tq
