/- Plain words on lists of records: LongRecs, Least, and names that may be. -/
import Derived.Test.YtdkecfjeiookdaaGrGI
import Derived.Test.YtdkecfjeiookdaaGrPAx3
import Derived.Test.YtdkecfjeiookdaaGrPAx5
namespace Go.Proofs.Ytdkecfjeiookdaa.PA
open Go Go.RowKit Go.Proofs.YtdkecfjeiookdaaW.PrintWords Go.Proofs.YtdkecfjeiookdaaW.PrintLast Go.Proofs.Ytdkecfjeiookdaa.Ro
set_option linter.unusedVariables false

theorem getD_mem39 {l : List S39} {i : Nat} (h : i < l.length) : l.getD i z39 ∈ l := by
  rw [List.getD_eq_getElem?_getD, List.getElem?_eq_getElem h]
  exact List.getElem_mem h
theorem getD_mem32 {l : List S32} {i : Nat} (h : i < l.length) : l.getD i z32 ∈ l := by
  rw [List.getD_eq_getElem?_getD, List.getElem?_eq_getElem h]
  exact List.getElem_mem h
theorem longRecs_loop (m : Int) (l : List S39) (hl : ∀ r ∈ l, OkRec r) (hl2 : l.length ≤ 1099511627776 * 8) (d : Nat) : ∀ (k i : Nat) (x : Int), i ≤ l.length → l.length - i = d → d < k → 0 ≤ x → x ≤ 562949953421312 →
    ∃ q, ostiarykit_LongRecs.l0 k l m x (i : Int) = some q ∧ (q = false → x ≤ 2000 ∧ (l.length : Int) ≤ m ∧ ∀ j, i ≤ j → j < l.length → (l.getD j z39).f0.size ≤ 2000 ∧ (l.getD j z39).f4.size ≤ 2000) := by
  have hr : reachBytes = 140737488351232 := by decide
  induction d with
  | zero =>
    intro k i x h1 h2 h3 h4 h5
    obtain ⟨k, rfl⟩ : ∃ j, k = j + 1 := ⟨k - 1, by omega⟩
    simp only [ostiarykit_LongRecs.l0]
    rw [if_neg (by omega)]
    by_cases hm : (l.length : Int) > m
    · exact ⟨true, by rw [if_pos hm], by simp⟩
    · refine ⟨decide (x > 2000), by rw [if_neg hm], fun h => ?_⟩
      have := of_decide_eq_false h
      exact ⟨by omega, by omega, fun j hj hj2 => by omega⟩
  | succ d ih =>
    intro k i x h1 h2 h3 h4 h5
    obtain ⟨k, rfl⟩ : ∃ j, k = j + 1 := ⟨k - 1, by omega⟩
    have hlt : i < l.length := by omega
    simp only [ostiarykit_LongRecs.l0]
    rw [if_pos (by omega)]
    by_cases hx : x ≤ 2000
    · rw [if_pos hx, if_pos (by omega)]
      have ho := hl _ (getD_mem39 hlt)
      have ho0 := ho.1
      have ho4 := ho.2.2.2.2
      have hrd : rd_T39 l (i : Int) = l.getD i z39 := rfl
      rw [hrd, show wrap64 ((i : Int) + 1) = ((i + 1 : Nat) : Int) from by unfold wrap64; omega]
      rw [show wrap64 (wrap64 (x + ((l.getD i z39).f0.size : Int)) + ((l.getD i z39).f4.size : Int)) = x + ((l.getD i z39).f0.size : Int) + ((l.getD i z39).f4.size : Int) from by unfold wrap64; omega]
      obtain ⟨q, hq, hqq⟩ := ih k (i + 1) (x + ((l.getD i z39).f0.size : Int) + ((l.getD i z39).f4.size : Int)) (by omega) (by omega) (by omega) (by omega) (by omega)
      refine ⟨q, hq, fun h => ?_⟩
      obtain ⟨a, b, c⟩ := hqq h
      refine ⟨by omega, b, fun j hj hj2 => ?_⟩
      by_cases e : j = i
      · subst e; constructor <;> omega
      · exact c j (by omega) hj2
    · rw [if_neg hx]
      by_cases hm : (l.length : Int) > m
      · exact ⟨true, by rw [if_pos hm], by simp⟩
      · exact ⟨decide (x > 2000), by rw [if_neg hm], fun h => by have := of_decide_eq_false h; omega⟩
theorem longRecs_tells (k : Nat) (m : Int) (l : List S39) (hl : ∀ r ∈ l, OkRec r) (hl2 : l.length * 56 ≤ reachBytes) (hk : l.length < k) :
    ∃ q, ostiarykit_LongRecs.f k l m = some q ∧ (q = false → (l.length : Int) ≤ m ∧ ∀ r ∈ l, r.f0.size ≤ 2000 ∧ r.f4.size ≤ 2000) := by
  have hr : reachBytes = 140737488351232 := by decide
  obtain ⟨q, hq, hqq⟩ := longRecs_loop m l hl (by omega) l.length k 0 0 (by omega) (by omega) hk (by omega) (by omega)
  refine ⟨q, hq, fun h => ?_⟩
  obtain ⟨_, a, b⟩ := hqq h
  refine ⟨a, fun r hr => ?_⟩
  obtain ⟨j, hj, rfl⟩ := List.getElem_of_mem hr
  have := b j (Nat.zero_le _) hj
  rwa [List.getD_eq_getElem?_getD, List.getElem?_eq_getElem hj] at this
/-- The least of sets' TTLs. -/
def LeastOf (X : List S32) (v : Int) : Prop := (X = [] → v = 0) ∧ (X ≠ [] → (∃ s ∈ X, s.f3 = v) ∧ ∀ s ∈ X, v ≤ s.f3)
theorem least_loop (X : List S32) (hX : X.length ≤ 1099511627776) (d : Nat) : ∀ (k i : Nat) (v : Int), i ≤ X.length → X.length - i = d → d < k → (∃ s ∈ X, s.f3 = v) → (∀ j, j < i → v ≤ (X.getD j z32).f3) →
    ∃ u, sets_Least.l0 k v X (X.length : Int) (i : Int) = some u ∧ (∃ s ∈ X, s.f3 = u) ∧ ∀ j, j < X.length → u ≤ (X.getD j z32).f3 := by
  induction d with
  | zero =>
    intro k i v h1 h2 h3 h4 h5
    obtain ⟨k, rfl⟩ : ∃ j, k = j + 1 := ⟨k - 1, by omega⟩
    simp only [sets_Least.l0]
    rw [if_neg (by omega)]
    exact ⟨v, rfl, h4, fun j hj => h5 j (by omega)⟩
  | succ d ih =>
    intro k i v h1 h2 h3 h4 h5
    obtain ⟨k, rfl⟩ : ∃ j, k = j + 1 := ⟨k - 1, by omega⟩
    have hlt : i < X.length := by omega
    simp only [sets_Least.l0]
    rw [if_pos (by omega), if_pos (by omega), if_pos (by omega), show wrap64 ((i : Int) + 1) = ((i + 1 : Nat) : Int) from by unfold wrap64; omega, show rd_T32 X (i : Int) = X.getD i z32 from rfl]
    have hm := mn_le v (X.getD i z32).f3
    refine ih k (i + 1) _ (by omega) (by omega) (by omega) ?_ (fun j hj => ?_)
    · rcases hm.2.2 with e | e
      · rw [e]; exact h4
      · rw [e]; exact ⟨_, getD_mem32 hlt, rfl⟩
    · by_cases e : j = i
      · subst e; omega
      · have := h5 j (by omega); omega
theorem least_tells (k : Nat) (X : List S32) (hX : X.length ≤ 1099511627776) (hk : X.length < k) : ∃ v, sets_Least.f k X = some v ∧ LeastOf X v := by
  unfold sets_Least.f LeastOf
  by_cases h : X = []
  · subst h
    exact ⟨0, by simp, fun _ => rfl, fun h => absurd rfl h⟩
  · have h0 : 0 < X.length := List.length_pos_iff.2 h
    rw [if_neg (by omega), if_pos (by omega)]
    obtain ⟨u, hu, ha, hb⟩ := least_loop X hX X.length k 0 (rd_T32 X 0).f3 (by omega) (by omega) hk ⟨_, getD_mem32 h0, rfl⟩ (fun j hj => by omega)
    refine ⟨u, hu, fun e => absurd e h, fun _ => ⟨ha, fun s hs => ?_⟩⟩
    obtain ⟨j, hj, rfl⟩ := List.getElem_of_mem hs
    have := hb j hj
    rwa [List.getD_eq_getElem?_getD, List.getElem?_eq_getElem hj] at this
theorem least_one {X Y : List S32} {u v : Int} (hu : LeastOf X u) (hv : LeastOf Y v) (hxy : ∀ s ∈ X, ∃ t ∈ Y, t.f3 = s.f3) (hyx : ∀ t ∈ Y, ∃ s ∈ X, s.f3 = t.f3) : u = v := by
  by_cases h : X = []
  · have h2 : Y = [] := by
      cases Y with
      | nil => rfl
      | cons t Y => obtain ⟨s, hs, _⟩ := hyx t (by simp); rw [h] at hs; cases hs
    rw [hu.1 h, hv.1 h2]
  · have h2 : Y ≠ [] := by
      intro e
      cases X with
      | nil => exact h rfl
      | cons s X => obtain ⟨t, ht, _⟩ := hxy s (by simp); rw [e] at ht; cases ht
    obtain ⟨⟨s, hs, hsu⟩, hub⟩ := hu.2 h
    obtain ⟨⟨t, ht, htv⟩, hvb⟩ := hv.2 h2
    obtain ⟨t', ht', e1⟩ := hxy s hs
    obtain ⟨s', hs', e2⟩ := hyx t ht
    have a := hvb t' ht'
    have b := hub s' hs'
    omega
end Go.Proofs.Ytdkecfjeiookdaa.PA
