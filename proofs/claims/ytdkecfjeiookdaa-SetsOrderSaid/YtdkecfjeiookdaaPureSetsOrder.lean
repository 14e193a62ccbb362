/- The plain law: to be the same is the same to all; for any three sets whose texts and lists are no longer than a machine bears. -/
import Derived.Test.YtdkecfjeiookdaaOR
import Derived.Test.YtdkecfjeiookdaaPAx13
namespace Go.Proofs.Ytdkecfjeiookdaa.Pure
open Go Go.RowKit Go.Proofs.Ytdkecfjeiookdaa.PA Go.Proofs.YtdkecfjeiookdaaW.PrintWords Go.Proofs.YtdkecfjeiookdaaW.PrintLast Go.Proofs.Ytdkecfjeiookdaa.Ro

theorem less_tells (x : S32) (hl : x.f4.length * 16 ≤ 140737488355328) : ∃ t, sets_Less.f x.f0 x.f1 x.f2 x.f3 x.f4 1 = some (x.f0, x.f1, x.f2, t, x.f4) := by
  unfold sets_Less.f slices_Clone_string_string.f
  rw [if_pos hl, Option.bind_some, if_neg (by decide)]
  split <;> exact ⟨_, rfl⟩
theorem order_end (k : Nat) (x : S32) (hx : x.f0.size ≤ 2000) (hl : x.f4.length * 16 ≤ 140737488355328) : ostiarylaw22_SetsOrder.j1 (k + 1) true (okN x.f0) false x.f0 x.f1 x.f2 x.f3 x.f4 = some true := by
  obtain ⟨t, ht⟩ := less_tells x hl
  simp only [ostiarylaw22_SetsOrder.j1]
  rw [if_neg (by decide), if_pos trivial, ht, Option.bind_some, same_tells _ _ _ _ _ _ _ _ _ _ (by show x.f0.size ≤ _; omega) (by omega) hl, Option.bind_some, same_self]
  simp
theorem SetsOrder (x y z : S32) (hx : OkSet x) (hy : OkSet y) (hz : OkSet z) : ∃ k, ostiarylaw22_SetsOrder.f k x.f0 x.f1 x.f2 x.f3 x.f4 y.f0 y.f1 y.f2 y.f3 y.f4 z.f0 z.f1 z.f2 z.f3 z.f4 = some true := by
  have hr : reachBytes = 140737488351232 := by decide
  refine ⟨x.f4.length + y.f4.length + z.f4.length + 2, ?_⟩
  obtain ⟨q1, e1, p1⟩ := longSet_tells (x.f4.length + y.f4.length + z.f4.length + 2) 20 x hx (by omega)
  obtain ⟨q2, e2, p2⟩ := longSet_tells (x.f4.length + y.f4.length + z.f4.length + 2) 20 y hy (by omega)
  obtain ⟨q3, e3, p3⟩ := longSet_tells (x.f4.length + y.f4.length + z.f4.length + 2) 20 z hz (by omega)
  have long : ∀ k, ostiarylaw22_SetsOrder.j0 (k + 1) true true x.f0 x.f1 x.f2 x.f3 x.f4 y.f0 y.f1 y.f2 y.f3 y.f4 z.f0 z.f1 z.f2 z.f3 z.f4 = some true := fun k => by
    simp only [ostiarylaw22_SetsOrder.j0]
    rfl
  unfold ostiarylaw22_SetsOrder.f
  rw [show ostiarylaw22_awake.f = some true from rfl, Option.bind_some, e1, Option.bind_some]
  cases q1
  case true => rw [if_pos rfl]; exact long _
  rw [if_neg (by decide), e2, Option.bind_some]
  cases q2
  case true => rw [if_pos rfl]; exact long _
  rw [if_neg (by decide), e3, Option.bind_some]
  cases q3
  case true => exact long _
  have nx := (p1 rfl).1
  have ny := (p2 rfl).1
  have nz := (p3 rfl).1
  have lx : x.f4.length * 16 ≤ 140737488355328 := by have := hx.2.2.2.2.2; omega
  have ly : y.f4.length * 16 ≤ 140737488355328 := by have := hy.2.2.2.2.2; omega
  have lz : z.f4.length * 16 ≤ 140737488355328 := by have := hz.2.2.2.2.2; omega
  clear e1 e2 e3 p1 p2 p3 long
  generalize x.f4.length + y.f4.length + z.f4.length = k
  obtain ⟨c, hc, hcc⟩ := check_one x.f0 (by omega)
  simp only [ostiarylaw22_SetsOrder.j0]
  rw [if_neg (by decide), hc, Option.bind_some, same_tells x.f0 x.f1 x.f2 x.f3 x.f4 x.f0 x.f1 x.f2 x.f3 x.f4 (by omega) (by omega) lx, Option.bind_some, same_self, hcc, if_neg (by simp),
    same_tells x.f0 x.f1 x.f2 x.f3 x.f4 y.f0 y.f1 y.f2 y.f3 y.f4 (by omega) (by omega) lx, Option.bind_some, same_tells y.f0 y.f1 y.f2 y.f3 y.f4 x.f0 x.f1 x.f2 x.f3 x.f4 (by omega) (by omega) ly, Option.bind_some, same_turn y.f0 y.f1 y.f2 y.f4 x.f0 x.f1 x.f2 x.f4, if_neg (by simp), Option.bind_some]
  cases hxy : sameS x.f0 x.f1 x.f2 x.f4 y.f0 y.f1 y.f2 y.f4
  · rw [if_neg (by decide)]
    exact order_end k x nx lx
  · rw [if_pos rfl, same_tells y.f0 y.f1 y.f2 y.f3 y.f4 z.f0 z.f1 z.f2 z.f3 z.f4 (by omega) (by omega) ly, Option.bind_some]
    cases hyz : sameS y.f0 y.f1 y.f2 y.f4 z.f0 z.f1 z.f2 z.f4
    · rw [if_neg (by decide)]
      exact order_end k x nx lx
    · rw [if_pos rfl, same_tells x.f0 x.f1 x.f2 x.f3 x.f4 z.f0 z.f1 z.f2 z.f3 z.f4 (by omega) (by omega) lx, Option.bind_some, same_trans hxy hyz]
      exact order_end k x nx lx
end Go.Proofs.Ytdkecfjeiookdaa.Pure
