/- The plain law: which sets may be, which records they are, what they are with a lower TTL, and which are the same, is told as the document says; for any two sets and any whole number that a machine bears. -/
import Derived.Test.YtdkecfjeiookdaaTeRF
import Derived.Test.YtdkecfjeiookdaaTePAx19
namespace Go.Proofs.Ytdkecfjeiookdaa.Pure
open Go Go.RowKit Go.Proofs.Ytdkecfjeiookdaa.PA Go.Proofs.YtdkecfjeiookdaaW.PrintWords Go.Proofs.YtdkecfjeiookdaaW.PrintLast Go.Proofs.Ytdkecfjeiookdaa.Ro
set_option linter.unusedVariables false

theorem sameTexts_loop (l : List ByteArray) (hl : l.length ≤ 1099511627776) (d : Nat) : ∀ (k i : Nat), i ≤ l.length → l.length - i = d → d < k → ostiarykit_SameTexts.l0 k l l (i : Int) = some true := by
  induction d with
  | zero =>
    intro k i h1 h2 h3
    obtain ⟨k, rfl⟩ : ∃ j, k = j + 1 := ⟨k - 1, by omega⟩
    simp only [ostiarykit_SameTexts.l0]
    rw [if_neg (by omega)]
  | succ d ih =>
    intro k i h1 h2 h3
    obtain ⟨k, rfl⟩ : ∃ j, k = j + 1 := ⟨k - 1, by omega⟩
    have q1 : i + 1 ≤ l.length := by omega
    have q2 : l.length - (i + 1) = d := by omega
    have q3 : d < k := by omega
    simp only [ostiarykit_SameTexts.l0]
    rw [if_pos (by omega), if_pos (by omega), if_pos (by omega), show wrap64 ((i : Int) + 1) = ((i + 1 : Nat) : Int) from by unfold wrap64; omega]
    simp only [if_true]
    exact ih k (i + 1) q1 q2 q3
theorem sameTexts_self (k : Nat) (l : List ByteArray) (hl : l.length ≤ 1099511627776) (hk : l.length < k) : ostiarykit_SameTexts.f k l l = some true := by
  have := sameTexts_loop l hl l.length k 0 (by omega) (by omega) hk
  unfold ostiarykit_SameTexts.f
  rw [if_pos rfl]
  exact this
theorem sameSet_self (k : Nat) (n : ByteArray) (t c x : Int) (l : List ByteArray) (hl : l.length ≤ 1099511627776) (hk : l.length < k) : ostiarykit_SameSet.f k n t c x l n t c x l = some true := by
  unfold ostiarykit_SameSet.f
  rw [if_pos rfl, if_pos rfl, if_pos rfl, if_pos rfl, sameTexts_self k l hl hk]
  rfl
theorem sameRecs_loop (l : List S39) (hl : l.length ≤ 1099511627776) (d : Nat) : ∀ (k i : Nat), i ≤ l.length → l.length - i = d → d < k → ostiarykit_SameRecs.l0 k l l (i : Int) = some true := by
  induction d with
  | zero =>
    intro k i h1 h2 h3
    obtain ⟨k, rfl⟩ : ∃ j, k = j + 1 := ⟨k - 1, by omega⟩
    simp only [ostiarykit_SameRecs.l0]
    rw [if_neg (by omega)]
  | succ d ih =>
    intro k i h1 h2 h3
    obtain ⟨k, rfl⟩ : ∃ j, k = j + 1 := ⟨k - 1, by omega⟩
    have q1 : i + 1 ≤ l.length := by omega
    have q2 : l.length - (i + 1) = d := by omega
    have q3 : d < k := by omega
    simp only [ostiarykit_SameRecs.l0]
    rw [if_pos (by omega), if_pos (by omega), if_pos (by omega), if_neg (by simp), show wrap64 ((i : Int) + 1) = ((i + 1 : Nat) : Int) from by unfold wrap64; omega]
    exact ih k (i + 1) q1 q2 q3
theorem sameRecs_self (k : Nat) (l : List S39) (hl : l.length ≤ 1099511627776) (hk : l.length < k) : ostiarykit_SameRecs.f k l l = some true := by
  have := sameRecs_loop l hl l.length k 0 (by omega) (by omega) hk
  unfold ostiarykit_SameRecs.f
  rw [if_pos rfl]
  exact this
theorem tells_over (n0 : ByteArray) (t c x : Int) (l : List ByteArray) (hl : l.length ≤ 1099511627776) (n1 : ByteArray) (t1 c1 x1 : Int) (d : Nat) : ∀ (k i : Nat) (y : List ByteArray), y.length = l.length → i ≤ l.length → l.length - i = d → d + l.length + 2 < k →
    ostiarylaw22_SetsTells.l0 k true true (i : Int) n0 t c x l n0 t c x l n1 t1 c1 x1 y = some true := by
  induction d with
  | zero =>
    intro k i y hy h1 h2 h3
    obtain ⟨k, rfl⟩ : ∃ j, k = j + 1 := ⟨k - 1, by omega⟩
    simp only [ostiarylaw22_SetsTells.l0]
    rw [if_neg (by omega), if_pos trivial, if_pos trivial, sameSet_self k n0 t c x l hl (by omega)]
    rfl
  | succ d ih =>
    intro k i y hy h1 h2 h3
    obtain ⟨k, rfl⟩ : ∃ j, k = j + 1 := ⟨k - 1, by omega⟩
    have q1 : i + 1 ≤ l.length := by omega
    have q2 : l.length - (i + 1) = d := by omega
    have q3 : d + l.length + 2 < k := by omega
    simp only [ostiarylaw22_SetsTells.l0]
    rw [if_pos (by omega), if_pos (by omega), show wrap64 ((i : Int) + 1) = ((i + 1 : Nat) : Int) from by unfold wrap64; omega]
    exact ih k (i + 1) _ (by rw [List.length_set]; exact hy) q1 q2 q3
theorem SetsTells (a b : S32) (n : Int) (ha : OkSet a) (hb : OkSet b) {C : Prop} (_ : C) : ∃ k, ostiarylaw22_SetsTells.f k a.f0 a.f1 a.f2 a.f3 a.f4 b.f0 b.f1 b.f2 b.f3 b.f4 n = some true := by
  have hr : reachBytes = 140737488351232 := by decide
  refine ⟨a.f4.length + b.f4.length + 10000, ?_⟩
  obtain ⟨q1, e1, p1⟩ := longSet_tells (a.f4.length + b.f4.length + 10000) 70 a ha (by omega)
  obtain ⟨q2, e2, p2⟩ := longSet_tells (a.f4.length + b.f4.length + 10000) 70 b hb (by omega)
  have stop : ∀ k, ostiarylaw22_SetsTells.j0 (k + 1) n true a.f0 a.f1 a.f2 a.f3 a.f4 b.f0 b.f1 b.f2 b.f3 b.f4 = some true := fun k => by
    simp only [ostiarylaw22_SetsTells.j0]
    rfl
  unfold ostiarylaw22_SetsTells.f
  rw [e1, Option.bind_some]
  cases q1
  case true => rw [if_pos rfl]; exact stop _
  rw [if_neg (by decide), e2, Option.bind_some]
  cases q2
  case true => exact stop _
  obtain ⟨na, la⟩ := p1 rfl
  obtain ⟨nb, lb⟩ := p2 rfl
  have xa : ∀ x ∈ a.f4, x.size ≤ 9223372036854775807 := fun x hx => by have := ha.2.2.2.2.1 x hx; omega
  clear e1 e2 p1 p2 stop
  have hK : a.f4.length + b.f4.length ≤ 140 := by omega
  generalize a.f4.length + b.f4.length = K at hK
  have h0 : ([] : List ByteArray).length + a.f4.length < 8796093022208 := by rw [List.length_nil, Nat.zero_add]; omega
  obtain ⟨c, hc⟩ := check_some a.f0 (by omega)
  have hch : ∃ q, sets_Check.f a.f0 a.f1 a.f2 a.f3 a.f4 = some q := by
    unfold sets_Check.f
    rw [if_pos xa, hc, Option.bind_some]
    split <;> exact ⟨_, rfl⟩
  obtain ⟨q, hq⟩ := hch
  rw [show K + 10000 = (K + 9999) + 1 from rfl]
  simp only [ostiarylaw22_SetsTells.j0]
  rw [if_neg (by decide), Option.bind_some, if_pos h0, Option.bind_some, List.nil_append, lessS_tells _ _ _ _ _ _ (by omega), Option.bind_some, hq, Option.bind_some, refCheckS_tells _ _ _ _ _ _ (by omega) (by omega) xa (by omega), hq, Option.bind_some, if_pos rfl,
    recs_tells _ a (by omega) (by omega), Option.bind_some, refRecs_tells _ a (by omega) (by omega), Option.bind_some, sameRecs_self _ _ (by unfold recsOf; rw [List.length_map]; omega) (by unfold recsOf; rw [List.length_map]; omega), Option.bind_some, if_pos rfl,
    refLess_tells _ _ _ _ _ _ (by omega), Option.bind_some]
  dsimp only
  rw [sameSet_self _ _ _ _ _ _ (by omega) (by omega), Option.bind_some]
  rw [show K + 9999 = (K + 9998) + 1 from rfl]
  simp only [ostiarylaw22_SetsTells.j1]
  rw [same_tells _ _ _ _ _ _ _ _ _ _ (by omega) (by omega) (by omega), Option.bind_some, refSameS_tells _ _ _ _ _ _ _ _ _ _ _ (by omega) (by omega) (by omega) (by omega) (by omega), Option.bind_some, if_pos (by simp),
    same_tells _ _ _ _ _ _ _ _ _ _ (by omega) (by omega) (by omega), Option.bind_some, refSameS_tells _ _ _ _ _ _ _ _ _ _ _ (by omega) (by omega) (by omega) (by omega) (by omega), Option.bind_some]
  rw [show K + 9998 = (K + 9997) + 1 from rfl]
  simp only [ostiarylaw22_SetsTells.j2, beq_self_eq_true]
  exact tells_over a.f0 a.f1 a.f2 a.f3 a.f4 (by omega) _ _ _ _ a.f4.length (K + 9997) 0 a.f4 rfl (by omega) (by omega) (by omega)
end Go.Proofs.Ytdkecfjeiookdaa.Pure
