/- The plain law: however records are turned about, their sets are the same ones but for their order, with the same TTLs; for any list of records and of whole numbers that a machine bears. -/
import Derived.Test.YtdkecfjeiookdaaLR
import Derived.Test.YtdkecfjeiookdaaPAx9
namespace Go.Proofs.Ytdkecfjeiookdaa.Pure
open Go Go.RowKit Go.Proofs.Ytdkecfjeiookdaa.PA Go.Proofs.YtdkecfjeiookdaaW.PrintWords Go.Proofs.YtdkecfjeiookdaaW.PrintLast Go.Proofs.Ytdkecfjeiookdaa.Ro
set_option linter.unusedVariables false

theorem turned_pick (x : Int) (n : Nat) (hn : 0 < n) (hn2 : n ≤ 1000000) : ∃ t : Nat, ostiarykit_Pick.f x (n : Int) = some (t : Int) ∧ t < n := by
  have h1 := Int.tmod_lt_of_pos x (show (0 : Int) < n by omega)
  have h2 := Int.lt_tmod_of_pos x (show (0 : Int) < n by omega)
  unfold ostiarykit_Pick.f
  rw [if_neg (by omega), if_neg (by omega)]
  by_cases h : Int.tmod x n < 0
  · rw [if_pos h]
    refine ⟨(Int.tmod x n + n).toNat, ?_, by omega⟩
    rw [show wrap64 (Int.tmod x n + n) = Int.tmod x n + n from by unfold wrap64; omega]
    congr 1; omega
  · rw [if_neg h]
    exact ⟨(Int.tmod x n).toNat, by congr 1; omega, by omega⟩

section
variable {l m : List S39} {X Y : List S32}
/-- The inner loop: a set that is the same is found. -/
theorem turned_inner (hX : SetsOf l X) (hY : SetsOf m Y) (hXl : ∀ s ∈ X, s.f4.length ≤ 1000) (hYn : Y.length ≤ 1000) (i : Nat) (hi : i < X.length) (d : Nat) : ∀ (k j : Nat) (n : Int), j ≤ Y.length → Y.length - j = d → 0 ≤ n → n ≤ j →
    (1 ≤ n ∨ ∃ q, j ≤ q ∧ q < Y.length ∧ sameS (X.getD i z32).f0 (X.getD i z32).f1 (X.getD i z32).f2 (X.getD i z32).f4 (Y.getD q z32).f0 (Y.getD q z32).f1 (Y.getD q z32).f2 (Y.getD q z32).f4 = true ∧ (X.getD i z32).f3 = (Y.getD q z32).f3) →
    ostiarylaw22_SetsTurned.l3 (k + d + 1) true X Y (i : Int) n (j : Int) = ostiarylaw22_SetsTurned.l2 k true X Y (wrap64 ((i : Int) + 1)) := by
  have ox := hX.2.1 _ (getD_mem32 hi)
  have hxs := okN_size ox.1
  have hxl := hXl _ (getD_mem32 hi)
  induction d with
  | zero =>
    intro k j n h1 h2 h3 h4 h5
    simp only [ostiarylaw22_SetsTurned.l3]
    rw [if_neg (by omega), if_neg (by rcases h5 with h | ⟨q, h, h', _⟩ <;> omega)]
  | succ d ih =>
    intro k j n h1 h2 h3 h4 h5
    have hlt : j < Y.length := by omega
    have q1 : j + 1 ≤ Y.length := by omega
    have q2 : Y.length - (j + 1) = d := by clear h5; omega
    have q3 : 0 ≤ n + 1 := by omega
    have q4 : n + 1 ≤ ((j + 1 : Nat) : Int) := by omega
    have q5 : n ≤ ((j + 1 : Nat) : Int) := by omega
    have oy := hY.2.1 _ (getD_mem32 hlt)
    have hys := okN_size oy.1
    obtain ⟨K, hK⟩ : ∃ K, K = k + d + 1 := ⟨_, rfl⟩
    rw [show k + (d + 1) + 1 = K + 1 from by omega]
    simp only [ostiarylaw22_SetsTurned.l3]
    rw [hK]
    clear hK
    rw [if_pos (by omega), if_pos (by omega), if_pos (by omega), if_pos (by omega), show rd_T32 X (i : Int) = X.getD i z32 from rfl, show rd_T32 Y (j : Int) = Y.getD j z32 from rfl,
      same_tells _ _ _ _ _ _ _ _ _ _ (by omega) (by omega) (by omega), Option.bind_some, show wrap64 ((j : Int) + 1) = ((j + 1 : Nat) : Int) from by unfold wrap64; omega, show wrap64 (n + 1) = n + 1 from by unfold wrap64; omega]
    cases hsm : sameS (X.getD i z32).f0 (X.getD i z32).f1 (X.getD i z32).f2 (X.getD i z32).f4 (Y.getD j z32).f0 (Y.getD j z32).f1 (Y.getD j z32).f2 (Y.getD j z32).f4 with
    | true =>
      rw [if_pos rfl]
      by_cases e : (X.getD i z32).f3 = (Y.getD j z32).f3
      · rw [if_pos e]
        exact ih k (j + 1) (n + 1) q1 q2 q3 q4 (Or.inl (by omega))
      · rw [if_neg e]
        refine ih k (j + 1) n q1 q2 h3 q5 (h5.imp id ?_)
        rintro ⟨q, hq, hq2, hq3, hq4⟩
        refine ⟨q, ?_, hq2, hq3, hq4⟩
        rcases Nat.lt_or_ge j q with h | h
        · exact h
        · obtain rfl : q = j := by omega
          exact absurd hq4 e
    | false =>
      rw [if_neg (by decide)]
      refine ih k (j + 1) n q1 q2 h3 q5 (h5.imp id ?_)
      rintro ⟨q, hq, hq2, hq3, hq4⟩
      refine ⟨q, ?_, hq2, hq3, hq4⟩
      rcases Nat.lt_or_ge j q with h | h
      · exact h
      · obtain rfl : q = j := by omega
        rw [hsm] at hq3; cases hq3
theorem turned_sets (hp : ∀ r, r ∈ l ↔ r ∈ m) (hX : SetsOf l X) (hY : SetsOf m Y) (hXl : ∀ s ∈ X, s.f4.length ≤ 1000) (hXn : X.length ≤ 1000) (hYn : Y.length ≤ 1000) (d : Nat) : ∀ (k i : Nat), i ≤ X.length → X.length - i = d → X.length + Y.length + 1 < k →
    ostiarylaw22_SetsTurned.l2 (k + d * (Y.length + 2) + 1) true X Y (i : Int) = some true := by
  induction d with
  | zero =>
    intro k i h1 h2 h3
    simp only [ostiarylaw22_SetsTurned.l2, Nat.zero_mul, Nat.add_zero]
    rw [if_neg (by omega), if_pos trivial]
    obtain ⟨u, hu, hu2⟩ := least_tells k X (by omega) (by omega)
    obtain ⟨v, hv, hv2⟩ := least_tells k Y (by omega) (by omega)
    rw [hu, Option.bind_some, hv, Option.bind_some]
    have : u = v := least_one hu2 hv2 (fun s hs => by obtain ⟨t, ht, _, h3, _⟩ := setsOf_match hp hX hY hs; exact ⟨t, ht, h3⟩) (fun s hs => by obtain ⟨t, ht, _, h3, _⟩ := setsOf_match (fun r => (hp r).symm) hY hX hs; exact ⟨t, ht, h3⟩)
    rw [this]; simp
  | succ d ih =>
    intro k i h1 h2 h3
    have hlt : i < X.length := by omega
    rw [show k + (d + 1) * (Y.length + 2) + 1 = ((k + d * (Y.length + 2) + 1) + Y.length + 1) + 1 from by rw [Nat.succ_mul]; omega]
    simp only [ostiarylaw22_SetsTurned.l2]
    rw [if_pos (by omega)]
    have h0 := turned_inner hX hY hXl hYn i hlt Y.length (k + d * (Y.length + 2) + 1) 0 0 (by omega) (by omega) (by omega) (by omega) (Or.inr (by
      obtain ⟨t, ht, hk, h3, hp4, o1, o2⟩ := setsOf_match hp hX hY (getD_mem32 hlt)
      obtain ⟨q, hq, rfl⟩ := List.getElem_of_mem ht
      have e : Y.getD q z32 = Y[q] := by rw [List.getD_eq_getElem?_getD, List.getElem?_eq_getElem hq]; rfl
      exact ⟨q, Nat.zero_le _, hq, by rw [e]; exact setsOf_same hk hp4 o1 o2, by rw [e]; exact h3.symm⟩))
    rw [show ((0 : Nat) : Int) = 0 from rfl] at h0
    rw [h0, show wrap64 ((i : Int) + 1) = ((i + 1 : Nat) : Int) from by unfold wrap64; omega]
    exact ih k (i + 1) (by omega) (by omega) h3
end

theorem turned_end (l m : List S39) (hp : m.Perm l) (hn : l.length ≤ 40) (hs : ∀ r ∈ l, OkRec r ∧ r.f0.size ≤ 2000 ∧ okN r.f0 = true) (k : Nat) (hk : 3000 ≤ k) : ostiarylaw22_SetsTurned.j3 k l true m = some true := by
  obtain ⟨k, rfl⟩ : ∃ j, k = j + 1 := ⟨k - 1, by omega⟩
  have hlen := hp.length_eq
  have hX := setsOf_group l (fun r hr => (hs r hr).2.2)
  have hY := setsOf_group m (fun r hr => (hs r (hp.mem_iff.1 hr)).2.2)
  have hXn := groupTo_length l l.length
  have hYn := groupTo_length m m.length
  have ok : ∀ q : List S39, (∀ r ∈ q, r ∈ l) → ∀ r ∈ q, okRecG r := fun q hq r hr => by
    obtain ⟨h1, h2, _⟩ := hs r (hq r hr)
    exact ⟨by omega, h1.2.1, h1.2.2.1⟩
  simp only [ostiarylaw22_SetsTurned.j3]
  unfold sets_Group.f
  rw [if_pos ⟨by omega, ok l (fun r hr => hr)⟩, Option.bind_some, if_pos ⟨by omega, ok m (fun r hr => hp.mem_iff.1 hr)⟩, Option.bind_some]
  have hm : ∀ r, r ∈ l ↔ r ∈ m := fun r => hp.mem_iff.symm
  have hl := setsOf_length hm hX hY
  rw [if_pos (by omega)]
  have hXl : ∀ s ∈ groupTo l l.length, s.f4.length ≤ 1000 := fun s hs => by
    obtain ⟨j, hj, rfl⟩ := List.getElem_of_mem hs
    have := groupTo_data l l.length j
    rw [List.getD_eq_getElem?_getD, List.getElem?_eq_getElem hj] at this
    simp only [Option.getD_some] at this
    omega
  have hmul : (groupTo l l.length).length * ((groupTo m m.length).length + 2) ≤ 40 * 42 := Nat.mul_le_mul (by omega) (by omega)
  have := turned_sets hm hX hY hXl (by omega) (by omega) (groupTo l l.length).length (k - (groupTo l l.length).length * ((groupTo m m.length).length + 2) - 1) 0 (by omega) (by omega) (by omega)
  rw [show k - (groupTo l l.length).length * ((groupTo m m.length).length + 2) - 1 + (groupTo l l.length).length * ((groupTo m m.length).length + 2) + 1 = k from by omega] at this
  exact this

theorem turned_turns (l : List S39) (z : List Int) (hn : l.length ≤ 40) (hz : z.length ≤ 100) (hs : ∀ r ∈ l, OkRec r ∧ r.f0.size ≤ 2000 ∧ okN r.f0 = true) (d : Nat) : ∀ (k i : Nat) (m : List S39), m.Perm l → i ≤ z.length → z.length - i = d → 3000 + d + 1 ≤ k →
    ostiarylaw22_SetsTurned.l1 k l z true m (i : Int) = some true := by
  induction d with
  | zero =>
    intro k i m hp h1 h2 h3
    obtain ⟨k, rfl⟩ : ∃ j, k = j + 1 := ⟨k - 1, by omega⟩
    simp only [ostiarylaw22_SetsTurned.l1]
    rw [if_neg (by omega)]
    exact turned_end l m hp hn hs k (by omega)
  | succ d ih =>
    intro k i m hp h1 h2 h3
    obtain ⟨k, rfl⟩ : ∃ j, k = j + 1 := ⟨k - 1, by omega⟩
    have hlen := hp.length_eq
    simp only [ostiarylaw22_SetsTurned.l1]
    rw [if_pos (by omega)]
    by_cases h0 : 0 < m.length
    · obtain ⟨t, ht, htl⟩ := turned_pick (rd z (i : Int)) m.length h0 (by omega)
      have e1 : Int.tmod (i : Int) (m.length : Int) = ((i % m.length : Nat) : Int) := by rw [Int.ofNat_tmod]
      have hpl := Nat.mod_lt i h0
      rw [if_pos (by omega), if_neg (by omega), if_pos (by omega), ht, Option.bind_some, if_pos (by omega), if_pos (by omega), e1, if_pos (by omega), if_pos (by omega), show wrap64 ((i : Int) + 1) = ((i + 1 : Nat) : Int) from by unfold wrap64; omega]
      refine ih k (i + 1) _ (List.Perm.trans ?_ hp) (by omega) (by omega) (by omega)
      have hsw := List.set_set_perm hpl htl
      have g : ∀ q, (hq : q < m.length) → rd_T39 m ((q : Nat) : Int) = m[q] := fun q hq => by
        show m.getD q z39 = _
        rw [List.getD_eq_getElem?_getD, List.getElem?_eq_getElem hq]; rfl
      rw [g t htl, g _ hpl]
      exact hsw
    · rw [if_neg (by omega)]
      exact turned_end l m hp hn hs k (by omega)

theorem turned_check (l : List S39) (z : List Int) (hn : l.length ≤ 40) (hz : z.length ≤ 100) (hs : ∀ r ∈ l, OkRec r ∧ r.f0.size ≤ 2000) (d : Nat) : ∀ (k i : Nat), i ≤ l.length → l.length - i = d → 3200 + d ≤ k → (∀ j, j < i → okN (l.getD j z39).f0 = true) →
    ostiarylaw22_SetsTurned.l0 k l z true (i : Int) = some true := by
  induction d with
  | zero =>
    intro k i h1 h2 h3 h4
    obtain ⟨k, rfl⟩ : ∃ j, k = j + 1 := ⟨k - 1, by omega⟩
    simp only [ostiarylaw22_SetsTurned.l0]
    rw [if_neg (by omega), Option.bind_some, if_pos (by simp; omega), List.nil_append]
    refine turned_turns l z hn hz (fun r hr => ⟨(hs r hr).1, (hs r hr).2, ?_⟩) z.length k 0 l (List.Perm.refl _) (by omega) (by omega) (by omega)
    obtain ⟨j, hj, rfl⟩ := List.getElem_of_mem hr
    have := h4 j (by omega)
    rwa [List.getD_eq_getElem?_getD, List.getElem?_eq_getElem hj] at this
  | succ d ih =>
    intro k i h1 h2 h3 h4
    obtain ⟨k, rfl⟩ : ∃ j, k = j + 1 := ⟨k - 1, by omega⟩
    have hlt : i < l.length := by omega
    have hm := hs _ (getD_mem39 hlt)
    obtain ⟨c, hc, hcc⟩ := check_one (l.getD i z39).f0 (by omega)
    simp only [ostiarylaw22_SetsTurned.l0]
    rw [if_pos (by omega), if_pos (by omega), show rd_T39 l (i : Int) = l.getD i z39 from rfl, hc, Option.bind_some]
    by_cases h0 : c = 0
    · rw [if_pos h0, show wrap64 ((i : Int) + 1) = ((i + 1 : Nat) : Int) from by unfold wrap64; omega]
      refine ih k (i + 1) (by omega) (by omega) (by omega) (fun j hj => ?_)
      by_cases e : j = i
      · subst e; rw [← hcc, h0]; rfl
      · exact h4 j (by omega)
    · rw [if_neg h0]

theorem SetsTurned (l : List S39) (z : List Int) (hl : (∀ r ∈ l, OkRec r) ∧ l.length * 56 ≤ reachBytes) {C : Prop} (_ : C) : ∃ k, ostiarylaw22_SetsTurned.f k l z = some true := by
  refine ⟨l.length + 4000, ?_⟩
  obtain ⟨q, hq, hqq⟩ := longRecs_tells (l.length + 4000) 40 l hl.1 hl.2 (by omega)
  unfold ostiarylaw22_SetsTurned.f
  rw [show ostiarylaw22_awake.f = some true from rfl, Option.bind_some, hq, Option.bind_some]
  have stop : ∀ k, ostiarylaw22_SetsTurned.j0 (k + 1) l z true true = some true := fun k => by
    simp only [ostiarylaw22_SetsTurned.j0]
    rfl
  cases q with
  | true => rw [if_pos rfl]; exact stop _
  | false =>
    rw [if_neg (by decide)]
    by_cases hz : (z.length : Int) > 100
    · rw [decide_eq_true hz]; exact stop _
    · rw [decide_eq_false hz]
      obtain ⟨a, b⟩ := hqq rfl
      simp only [ostiarylaw22_SetsTurned.j0]
      rw [if_neg (by decide)]
      exact turned_check l z (by omega) (by omega) (fun r hr => ⟨hl.1 r hr, (b r hr).1⟩) l.length _ 0 (by omega) (by omega) (by omega) (fun j hj => by omega)
end Go.Proofs.Ytdkecfjeiookdaa.Pure
