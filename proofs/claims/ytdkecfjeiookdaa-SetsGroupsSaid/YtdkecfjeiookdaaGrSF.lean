/- Plain words: what is the same as itself is told the same; the least TTL as the document says it. -/
import Derived.Test.YtdkecfjeiookdaaGrRF
import Derived.Test.YtdkecfjeiookdaaGrPAx5
import Derived.Test.YtdkecfjeiookdaaGrPAx4
import Derived.Test.YtdkecfjeiookdaaGrPAx6
namespace Go.Proofs.Ytdkecfjeiookdaa.PA
open Go Go.RowKit Go.Proofs.YtdkecfjeiookdaaW.PrintWords Go.Proofs.YtdkecfjeiookdaaW.PrintLast Go.Proofs.Ytdkecfjeiookdaa.Ro
set_option linter.unusedVariables false

theorem selfTexts_loop (l : List ByteArray) (hl : l.length ≤ 1099511627776) (d : Nat) : ∀ (k i : Nat), i ≤ l.length → l.length - i = d → d < k → ostiarykit_SameTexts.l0 k l l (i : Int) = some true := by
  induction d with
  | zero =>
    intro k i h1 h2 h3
    obtain ⟨k, rfl⟩ : ∃ j, k = j + 1 := ⟨k - 1, by omega⟩
    simp only [ostiarykit_SameTexts.l0]
    rw [if_neg (by omega)]
  | succ d ih =>
    intro k i h1 h2 h3
    obtain ⟨k, rfl⟩ : ∃ j, k = j + 1 := ⟨k - 1, by omega⟩
    have q1 : i + 1 ≤ l.length := by omega
    have q2 : l.length - (i + 1) = d := by omega
    have q3 : d < k := by omega
    simp only [ostiarykit_SameTexts.l0]
    rw [if_pos (by omega), if_pos (by omega), if_pos (by omega), show wrap64 ((i : Int) + 1) = ((i + 1 : Nat) : Int) from by unfold wrap64; omega]
    simp only [if_true]
    exact ih k (i + 1) q1 q2 q3
theorem selfTexts (k : Nat) (l : List ByteArray) (hl : l.length ≤ 1099511627776) (hk : l.length < k) : ostiarykit_SameTexts.f k l l = some true := by
  have := selfTexts_loop l hl l.length k 0 (by omega) (by omega) hk
  unfold ostiarykit_SameTexts.f
  rw [if_pos rfl]
  exact this
theorem selfSet (k : Nat) (n : ByteArray) (t c x : Int) (l : List ByteArray) (hl : l.length ≤ 1099511627776) (hk : l.length < k) : ostiarykit_SameSet.f k n t c x l n t c x l = some true := by
  unfold ostiarykit_SameSet.f
  rw [if_pos rfl, if_pos rfl, if_pos rfl, if_pos rfl, selfTexts k l hl hk]
  rfl
theorem selfSets_loop (X : List S32) (hX : X.length ≤ 1099511627776) (m : Nat) (hm : ∀ s ∈ X, s.f4.length ≤ m) (hm2 : m ≤ 1099511627776) (d : Nat) : ∀ (k i : Nat), i ≤ X.length → X.length - i = d → d + m + 1 < k → ostiarykit_SameSets.l0 k X X (i : Int) = some true := by
  induction d with
  | zero =>
    intro k i h1 h2 h3
    obtain ⟨k, rfl⟩ : ∃ j, k = j + 1 := ⟨k - 1, by omega⟩
    simp only [ostiarykit_SameSets.l0]
    rw [if_neg (by omega)]
  | succ d ih =>
    intro k i h1 h2 h3
    obtain ⟨k, rfl⟩ : ∃ j, k = j + 1 := ⟨k - 1, by omega⟩
    have hlt : i < X.length := by omega
    have q1 : i + 1 ≤ X.length := by omega
    have q2 : X.length - (i + 1) = d := by omega
    have q3 : d + m + 1 < k := by omega
    have hs := hm _ (getD_mem32 hlt)
    simp only [ostiarykit_SameSets.l0]
    rw [if_pos (by omega), if_pos (by omega), if_pos (by omega), show rd_T32 X (i : Int) = X.getD i z32 from rfl, selfSet k _ _ _ _ _ (by omega) (by omega), Option.bind_some, if_pos rfl, show wrap64 ((i : Int) + 1) = ((i + 1 : Nat) : Int) from by unfold wrap64; omega]
    exact ih k (i + 1) q1 q2 q3
theorem selfSets (k : Nat) (X : List S32) (m : Nat) (hX : X.length ≤ 1099511627776) (hm : ∀ s ∈ X, s.f4.length ≤ m) (hm2 : m ≤ 1099511627776) (hk : X.length + m + 1 < k) : ostiarykit_SameSets.f k X X = some true := by
  have := selfSets_loop X hX m hm hm2 X.length k 0 (by omega) (by omega) hk
  unfold ostiarykit_SameSets.f
  rw [if_pos rfl]
  exact this
theorem selfRecs_loop (l : List S39) (hl : l.length ≤ 1099511627776) (d : Nat) : ∀ (k i : Nat), i ≤ l.length → l.length - i = d → d < k → ostiarykit_SameRecs.l0 k l l (i : Int) = some true := by
  induction d with
  | zero =>
    intro k i h1 h2 h3
    obtain ⟨k, rfl⟩ : ∃ j, k = j + 1 := ⟨k - 1, by omega⟩
    simp only [ostiarykit_SameRecs.l0]
    rw [if_neg (by omega)]
  | succ d ih =>
    intro k i h1 h2 h3
    obtain ⟨k, rfl⟩ : ∃ j, k = j + 1 := ⟨k - 1, by omega⟩
    have q1 : i + 1 ≤ l.length := by omega
    have q2 : l.length - (i + 1) = d := by omega
    have q3 : d < k := by omega
    simp only [ostiarykit_SameRecs.l0]
    rw [if_pos (by omega), if_pos (by omega), if_pos (by omega), if_neg (by simp), show wrap64 ((i : Int) + 1) = ((i + 1 : Nat) : Int) from by unfold wrap64; omega]
    exact ih k (i + 1) q1 q2 q3
theorem selfRecs (k : Nat) (l : List S39) (hl : l.length ≤ 1099511627776) (hk : l.length < k) : ostiarykit_SameRecs.f k l l = some true := by
  have := selfRecs_loop l hl l.length k 0 (by omega) (by omega) hk
  unfold ostiarykit_SameRecs.f
  rw [if_pos rfl]
  exact this
theorem refLeast_loop (X : List S32) (hX : X.length ≤ 1099511627776) (d : Nat) : ∀ (k i : Nat) (v : Int), i ≤ X.length → X.length - i = d → d < k → (∃ s ∈ X, s.f3 = v) → (∀ j, j < i → v ≤ (X.getD j z32).f3) →
    ∃ u, ostiaryref22_Least.l0 k X v (i : Int) = some u ∧ (∃ s ∈ X, s.f3 = u) ∧ ∀ j, j < X.length → u ≤ (X.getD j z32).f3 := by
  induction d with
  | zero =>
    intro k i v h1 h2 h3 h4 h5
    obtain ⟨k, rfl⟩ : ∃ j, k = j + 1 := ⟨k - 1, by omega⟩
    simp only [ostiaryref22_Least.l0]
    rw [if_neg (by omega)]
    exact ⟨v, rfl, h4, fun j hj => h5 j (by omega)⟩
  | succ d ih =>
    intro k i v h1 h2 h3 h4 h5
    obtain ⟨k, rfl⟩ : ∃ j, k = j + 1 := ⟨k - 1, by omega⟩
    have hlt : i < X.length := by omega
    simp only [ostiaryref22_Least.l0]
    rw [if_pos (by omega), if_pos (by omega), show wrap64 ((i : Int) + 1) = ((i + 1 : Nat) : Int) from by unfold wrap64; omega, show rd_T32 X (i : Int) = X.getD i z32 from rfl]
    have hm := mn_le v (X.getD i z32).f3
    refine ih k (i + 1) _ (by omega) (by omega) (by omega) ?_ (fun j hj => ?_)
    · rcases hm.2.2 with e | e
      · rw [e]; exact h4
      · rw [e]; exact ⟨_, getD_mem32 hlt, rfl⟩
    · by_cases e : j = i
      · subst e; omega
      · have := h5 j (by omega); omega
theorem refLeast_tells (k : Nat) (X : List S32) (hX : X.length ≤ 1099511627776) (hk : X.length < k) : ∃ v, ostiaryref22_Least.f k X = some v ∧ LeastOf X v := by
  unfold ostiaryref22_Least.f LeastOf
  by_cases h : X = []
  · subst h
    exact ⟨0, by simp, fun _ => rfl, fun h => absurd rfl h⟩
  · have h0 : 0 < X.length := List.length_pos_iff.2 h
    rw [if_neg (by omega), if_pos (by omega)]
    obtain ⟨u, hu, ha, hb⟩ := refLeast_loop X hX (X.length - 1) k 1 (rd_T32 X 0).f3 (by omega) rfl (by omega) ⟨_, getD_mem32 h0, rfl⟩ (fun j hj => by
      obtain rfl : j = 0 := by omega
      exact Int.le_refl _)
    refine ⟨u, hu, fun e => absurd e h, fun _ => ⟨ha, fun s hs => ?_⟩⟩
    obtain ⟨j, hj, rfl⟩ := List.getElem_of_mem hs
    have := hb j hj
    rwa [List.getD_eq_getElem?_getD, List.getElem?_eq_getElem hj] at this
theorem least_same (k : Nat) (X : List S32) (hX : X.length ≤ 1099511627776) (hk : X.length < k) : ∃ v, sets_Least.f k X = some v ∧ ostiaryref22_Least.f k X = some v := by
  obtain ⟨u, hu, hu2⟩ := least_tells k X hX hk
  obtain ⟨v, hv, hv2⟩ := refLeast_tells k X hX hk
  have : u = v := least_one hu2 hv2 (fun s hs => ⟨s, hs, rfl⟩) (fun s hs => ⟨s, hs, rfl⟩)
  exact ⟨u, hu, by rw [this]; exact hv⟩
end Go.Proofs.Ytdkecfjeiookdaa.PA
