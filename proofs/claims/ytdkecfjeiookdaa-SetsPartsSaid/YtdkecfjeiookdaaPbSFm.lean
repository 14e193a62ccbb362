/- Plain words: what is the same as itself is told the same; the least TTL as the document says it. -/
import Derived.Test.YtdkecfjeiookdaaPbPAx18m
import Derived.Test.YtdkecfjeiookdaaPbPAx5
import Derived.Test.YtdkecfjeiookdaaPbPAx4
import Derived.Test.YtdkecfjeiookdaaPbPAx0m
namespace Go.Proofs.Ytdkecfjeiookdaa.PA
open Go Go.RowKit Go.Proofs.YtdkecfjeiookdaaW.PrintWords Go.Proofs.YtdkecfjeiookdaaW.PrintLast Go.Proofs.Ytdkecfjeiookdaa.Ro
set_option linter.unusedVariables false

theorem selfTexts_loop (l : List ByteArray) (hl : l.length ≤ 1099511627776) (d : Nat) : ∀ (k i : Nat), i ≤ l.length → l.length - i = d → d < k → ostiarykit_SameTexts.l0 k l l (i : Int) = some true := by
  induction d with
  | zero =>
    intro k i h1 h2 h3
    obtain ⟨k, rfl⟩ : ∃ j, k = j + 1 := ⟨k - 1, by omega⟩
    simp only [ostiarykit_SameTexts.l0]
    rw [if_neg (by omega)]
  | succ d ih =>
    intro k i h1 h2 h3
    obtain ⟨k, rfl⟩ : ∃ j, k = j + 1 := ⟨k - 1, by omega⟩
    have q1 : i + 1 ≤ l.length := by omega
    have q2 : l.length - (i + 1) = d := by omega
    have q3 : d < k := by omega
    simp only [ostiarykit_SameTexts.l0]
    rw [if_pos (by omega), if_pos (by omega), if_pos (by omega), show wrap64 ((i : Int) + 1) = ((i + 1 : Nat) : Int) from by unfold wrap64; omega]
    simp only [if_true]
    exact ih k (i + 1) q1 q2 q3
theorem selfTexts (k : Nat) (l : List ByteArray) (hl : l.length ≤ 1099511627776) (hk : l.length < k) : ostiarykit_SameTexts.f k l l = some true := by
  have := selfTexts_loop l hl l.length k 0 (by omega) (by omega) hk
  unfold ostiarykit_SameTexts.f
  rw [if_pos rfl]
  exact this
theorem selfSet (k : Nat) (n : ByteArray) (t c x : Int) (l : List ByteArray) (hl : l.length ≤ 1099511627776) (hk : l.length < k) : ostiarykit_SameSet.f k n t c x l n t c x l = some true := by
  unfold ostiarykit_SameSet.f
  rw [if_pos rfl, if_pos rfl, if_pos rfl, if_pos rfl, selfTexts k l hl hk]
  rfl
theorem selfSets_loop (X : List S32) (hX : X.length ≤ 1099511627776) (m : Nat) (hm : ∀ s ∈ X, s.f4.length ≤ m) (hm2 : m ≤ 1099511627776) (d : Nat) : ∀ (k i : Nat), i ≤ X.length → X.length - i = d → d + m + 1 < k → ostiarykit_SameSets.l0 k X X (i : Int) = some true := by
  induction d with
  | zero =>
    intro k i h1 h2 h3
    obtain ⟨k, rfl⟩ : ∃ j, k = j + 1 := ⟨k - 1, by omega⟩
    simp only [ostiarykit_SameSets.l0]
    rw [if_neg (by omega)]
  | succ d ih =>
    intro k i h1 h2 h3
    obtain ⟨k, rfl⟩ : ∃ j, k = j + 1 := ⟨k - 1, by omega⟩
    have hlt : i < X.length := by omega
    have q1 : i + 1 ≤ X.length := by omega
    have q2 : X.length - (i + 1) = d := by omega
    have q3 : d + m + 1 < k := by omega
    have hs := hm _ (getD_mem32 hlt)
    simp only [ostiarykit_SameSets.l0]
    rw [if_pos (by omega), if_pos (by omega), if_pos (by omega), show rd_T32 X (i : Int) = X.getD i z32 from rfl, selfSet k _ _ _ _ _ (by omega) (by omega), Option.bind_some, if_pos rfl, show wrap64 ((i : Int) + 1) = ((i + 1 : Nat) : Int) from by unfold wrap64; omega]
    exact ih k (i + 1) q1 q2 q3
theorem selfSets (k : Nat) (X : List S32) (m : Nat) (hX : X.length ≤ 1099511627776) (hm : ∀ s ∈ X, s.f4.length ≤ m) (hm2 : m ≤ 1099511627776) (hk : X.length + m + 1 < k) : ostiarykit_SameSets.f k X X = some true := by
  have := selfSets_loop X hX m hm hm2 X.length k 0 (by omega) (by omega) hk
  unfold ostiarykit_SameSets.f
  rw [if_pos rfl]
  exact this
end Go.Proofs.Ytdkecfjeiookdaa.PA
-- printed out of the translation by the kit's print (wip/tools/given.py), and cut by wip/tools/trim.py: Lean checks it.
namespace Go.Proofs.Ytdkecfjeiookdaa.PA
open Go.RowKit Go.Proofs.YtdkecfjeiookdaaW.PrintWords Go.Proofs.YtdkecfjeiookdaaW.PrintLast Go.Proofs.YtdkecfjeiookdaaW.PrintMore
attribute [local go_sem] max2_int min2_int max_two min_two max_three min_three max_four min_four   -- for this text's walks alone
set_option linter.unusedVariables false
set_option linter.unusedSimpArgs false

/-! ### ostiarylaw22_has: function 39 -/
def ostiarylaw22_has.l0 : Nat → List ByteArray → ByteArray → Int → Option (Bool)
  | 0, _, _, _ => none
  | k + 1, x0, x1, x5 => if x5 < (x0.length : Int) then (if 0 ≤ x5 then (if (rdOf ByteArray.empty x0 x5).toList = x1.toList then (some true) else (ostiarylaw22_has.l0 k x0 x1 (wrap64 (x5 + 1)))) else (none)) else (some false)
def ostiarylaw22_has.f (k : Nat) (l0 : List ByteArray) (a1 : ByteArray) : Option (Bool) := ostiarylaw22_has.l0 k l0 a1 0
set_option maxHeartbeats 8000000 in
set_option maxRecDepth 100000 in
theorem ostiarylaw22_has.calls (k : Nat) (A0 : Option Addr) (c0 : Nat) (l0 : List ByteArray) (a1 : ByteArray) (r : Bool) (w : World) (hr0 : Kd.C Kd.string w A0 l0.length l0) (hc0 : l0.length ≤ c0) (h : ostiarylaw22_has.f k l0 a1 = some r) :
    Calls Try.prog 39 #[.slice A0 l0.length c0, .string a1] w fun e w' => e = .returned (.bool r) ∧ Drawn0 w w' := by
  have HR0 := Aside0.mk hr0
  have HC0 := Aside0.mk hc0
  clear hr0 hc0
  have H : (ostiarylaw22_has.l0 k l0 a1 0) = some r := h
  clear h
  have H' := Aside0.mk H
  clear H
  go_enter Try.func39, Try.ntmps39
  go_wp2
  go_loopg [5] k (fun kq v5 w' => ∃ (x5_1 : Int), v5 = .int .i64 x5_1 ∧ Aside0 (ostiarylaw22_has.l0 kq l0 a1 x5_1 = some r) ∧ Aside0 (kq ≤ k) ∧ Drawn0 w w')
  case atStart => exact ⟨(0), (by first | rfl | (simp; done) | (simp [*]; done)), H', ⟨Nat.le_refl _⟩, by repeat (first | exact Drawn0.refl _ | apply Drawn0.step)⟩
  case round =>
    clear H'
    try clear p2
    obtain ⟨x5_1, rfl, HA, HK1, ⟨m1, rfl⟩⟩ := hrel
    cases gk with
    | zero => exact absurd HA.out (by simp [ostiarylaw22_has.l0])
    | succ k1 =>
      have H := HA.out
      clear HA
      simp only [ostiarylaw22_has.l0] at H
      by_cases c3 : x5_1 < (l0.length : Int)
      · rw [if_pos c3] at H
        have c3b0 : decide (x5_1 < (l0.length : Int)) = true := decide_eq_true c3
        clear c3
        by_cases c4 : 0 ≤ x5_1
        · rw [if_pos c4] at H
          have c4b0 : decide (0 ≤ x5_1) = true := decide_eq_true c4
          clear c4
          by_cases c5 : (rdOf ByteArray.empty l0 x5_1).toList = a1.toList
          · rw [if_pos c5] at H
            have c5b0 : ((rdOf ByteArray.empty l0 x5_1).toList == a1.toList) = true := beq_iff_eq.mpr c5
            have c5b1 : ((rdOf ByteArray.empty l0 x5_1).toList != a1.toList) = false := bne_eq_false_iff_eq.mpr c5
            clear c5
            obtain rfl := Option.some.inj H
            have p354 : 0 ≤ (x5_1 : Int) := of_decide_eq_true (by first | (with_reducible assumption) | assumption)
            have q354 : x5_1 < (l0.length : Int) := of_decide_eq_true (by first | (with_reducible assumption) | assumption)
            obtain ⟨ad354, e354, hx354_0⟩ := Kd.at_string HR0.out x5_1 p354 q354
            cases e354
            replace p354 := eq_true p354
            replace q354 := eq_true q354
            go_wp2
            go_ret
            exact ⟨by first | rfl | (simp; done) | (simp [*]; done), by repeat (first | exact Drawn0.refl _ | apply Drawn0.step)⟩
          · rw [if_neg c5] at H
            have c5b0 : ((rdOf ByteArray.empty l0 x5_1).toList == a1.toList) = false := beq_eq_false_iff_ne.mpr c5
            have c5b1 : ((rdOf ByteArray.empty l0 x5_1).toList != a1.toList) = true := bne_iff_ne.mpr c5
            have H' := Aside0.mk H
            clear H
            have p354 : 0 ≤ (x5_1 : Int) := of_decide_eq_true (by first | (with_reducible assumption) | assumption)
            have q354 : x5_1 < (l0.length : Int) := of_decide_eq_true (by first | (with_reducible assumption) | assumption)
            obtain ⟨ad354, e354, hx354_0⟩ := Kd.at_string HR0.out x5_1 p354 q354
            cases e354
            replace p354 := eq_true p354
            replace q354 := eq_true q354
            go_wp2
            go_roundg k1
            case measure => have := HK1.out; omega
            case rel => exact ⟨(wrap64 (x5_1 + 1)), (by first | rfl | (simp; done) | (simp [*]; done)), H', ⟨by have := HK1.out; omega⟩, by repeat (first | exact Drawn0.refl _ | apply Drawn0.step)⟩
        · rw [if_neg c4] at H
          exact absurd H (by simp)
      · rw [if_neg c3] at H
        have c3b0 : decide (x5_1 < (l0.length : Int)) = false := decide_eq_false c3
        clear c3
        obtain rfl := Option.some.inj H
        go_wp2
        go_ret
        exact ⟨by first | rfl | (simp; done) | (simp [*]; done), by repeat (first | exact Drawn0.refl _ | apply Drawn0.step)⟩

-- NOT PRINTED: function 9 (ostiarylaw22_SetsParts)

/-! ### ostiarykit_BigRecs: function 54 -/

/-! ### ostiarykit_BigMessage: function 75 -/

/-! ### ostiarylaw24_big: function 40 -/

-- NOT PRINTED: function 76 (ostiarykit_copyRecs)

-- NOT PRINTED: function 41 (ostiarykit_CopyMessage)

end Go.Proofs.Ytdkecfjeiookdaa.PA
/- Plain words: each record is in just one set, and a set's records, grouped, are it. -/
namespace Go.Proofs.Ytdkecfjeiookdaa.PA
open Go Go.RowKit Go.Proofs.YtdkecfjeiookdaaW.PrintWords Go.Proofs.YtdkecfjeiookdaaW.PrintLast Go.Proofs.Ytdkecfjeiookdaa.Ro
set_option linter.unusedVariables false

theorem lawHas_loop (l : List ByteArray) (a : ByteArray) (hl : l.length ≤ 1099511627776) (d : Nat) : ∀ (k i : Nat), i ≤ l.length → l.length - i = d → d < k → ostiarylaw22_has.l0 k l a (i : Int) = some (decide (a ∈ l.drop i)) := by
  induction d with
  | zero =>
    intro k i h1 h2 h3
    obtain ⟨k, rfl⟩ : ∃ j, k = j + 1 := ⟨k - 1, by omega⟩
    simp only [ostiarylaw22_has.l0]
    rw [if_neg (by omega), List.drop_of_length_le (by omega)]
    simp
  | succ d ih =>
    intro k i h1 h2 h3
    obtain ⟨k, rfl⟩ : ∃ j, k = j + 1 := ⟨k - 1, by omega⟩
    have hlt : i < l.length := by omega
    have q1 : i + 1 ≤ l.length := by omega
    have q2 : l.length - (i + 1) = d := by omega
    have q3 : d < k := by omega
    have hr : rdOf ByteArray.empty l (i : Int) = l[i] := by simp [rdOf, List.getD_eq_getElem?_getD, List.getElem?_eq_getElem hlt]
    simp only [ostiarylaw22_has.l0]
    rw [if_pos (by omega), if_pos (by omega), hr, show wrap64 ((i : Int) + 1) = ((i + 1 : Nat) : Int) from by unfold wrap64; omega, List.drop_eq_getElem_cons hlt]
    by_cases h : l[i].toList = a.toList
    · have e : l[i] = a := bytes_eq h
      rw [if_pos h, decide_eq_true (by rw [e]; simp)]
    · have e : ¬ a = l[i] := fun e => h (by rw [e])
      rw [if_neg h, ih k (i + 1) q1 q2 q3, Option.some.injEq]
      exact decide_eq_decide.2 ⟨fun h => List.mem_cons_of_mem _ h, fun h => (List.mem_cons.1 h).resolve_left e⟩
theorem lawHas_tells (k : Nat) (l : List ByteArray) (a : ByteArray) (hl : l.length ≤ 1099511627776) (hk : l.length < k) : ostiarylaw22_has.f k l a = some (decide (a ∈ l)) := by
  have := lawHas_loop l a hl l.length k 0 (by omega) (by omega) hk
  unfold ostiarylaw22_has.f
  simpa using this
def good (s : S32) (r : S39) : Bool := sameS r.f0 r.f1 r.f2 s.f4 s.f0 s.f1 s.f2 s.f4 && decide (r.f4 ∈ s.f4) && decide (s.f3 ≤ r.f3)
def cntG (X : List S32) (r : S39) : Nat → Nat
  | 0 => 0
  | k + 1 => if good (X.getD k z32) r = true then cntG X r k + 1 else cntG X r k
theorem good_iff {l : List S39} {s : S32} (hs : SetOf l s) {r : S39} (hr : r ∈ l) (ho : okN r.f0 = true) : good s r = true ↔ keyS s = keyR r := by
  unfold good sameS sameN keyS keyR
  rw [ho, hs.1]
  simp only [Bool.and_eq_true, decide_eq_true_eq, Prod.mk.injEq, decide_true, Bool.and_true, Bool.true_and]
  constructor
  · rintro ⟨⟨⟨⟨h1, h2⟩, h3⟩, h4⟩, h5⟩
    exact ⟨(bytes_eq h3).symm, h1.symm, h2.symm⟩
  · rintro ⟨h1, h2, h3⟩
    have hk : keyR r = keyS s := by unfold keyR keyS; rw [h1, h2, h3]
    refine ⟨⟨⟨⟨h2.symm, h3.symm⟩, by rw [h1]⟩, (hs.2.2.1 _).2 ⟨r, hr, hk, rfl⟩⟩, hs.2.2.2.2 r hr hk⟩
theorem cntG_le (X : List S32) (r : S39) : ∀ k, cntG X r k ≤ k
  | 0 => Nat.le_refl _
  | k + 1 => by
    have := cntG_le X r k
    unfold cntG
    split <;> omega
theorem cntG_one {l : List S39} {X : List S32} (hX : SetsOf l X) {r : S39} (hr : r ∈ l) (ho : okN r.f0 = true) : cntG X r X.length = 1 := by
  obtain ⟨s, hs, hk⟩ := hX.2.2 r hr
  obtain ⟨q, hq, rfl⟩ := List.getElem_of_mem hs
  have key : ∀ k, k ≤ X.length → cntG X r k = if q < k then 1 else 0 := by
    intro k
    induction k with
    | zero => intro _; rfl
    | succ k ih =>
      intro hkl
      have hlt : k < X.length := by omega
      have hm := getD_mem32 hlt
      have e : X.getD k z32 = X[k] := by rw [List.getD_eq_getElem?_getD, List.getElem?_eq_getElem hlt]; rfl
      unfold cntG
      rw [ih (by omega)]
      by_cases hg : good (X.getD k z32) r = true
      · rw [if_pos hg]
        have h1 := (good_iff (hX.2.1 _ hm) hr ho).1 hg
        have h2 : q = k := by
          rw [e] at h1
          have h3 : (X.map keyS)[q]'(by simpa using hq) = (X.map keyS)[k]'(by simpa using hlt) := by rw [List.getElem_map, List.getElem_map, hk, h1]
          exact (List.getElem_inj hX.1).1 h3
        rw [h2, if_neg (by omega), if_pos (by omega)]
      · rw [if_neg hg]
        have h2 : q ≠ k := fun h => by
          subst h
          exact hg ((good_iff (hX.2.1 _ hm) hr ho).2 (by rw [e]; exact hk))
        by_cases h3 : q < k
        · rw [if_pos h3, if_pos (by omega)]
        · rw [if_neg h3, if_neg (by omega)]
  rw [key X.length (Nat.le_refl _), if_pos hq]
theorem again_fold (n : ByteArray) (t c x : Int) (ho : okN n = true) : ∀ (rest p : List ByteArray), (p ++ rest).Nodup → ((rest.map fun d => (⟨n, t, c, x, d⟩ : S39)).foldl groupStep [(⟨n, t, c, x, p⟩ : S32)]) = [(⟨n, t, c, x, p ++ rest⟩ : S32)]
  | [], p, _ => by simp
  | d :: rest, p, hn => by
    have hd : d ∉ p := fun h => by
      rw [List.nodup_append] at hn
      exact hn.2.2 d h d (by simp) rfl
    have hl : lastIx ([(⟨n, t, c, x, p⟩ : S32)].map keyS) (keyR ⟨n, t, c, x, d⟩) = some 0 := by
      have := lastIx_snoc [] (keyR ⟨n, t, c, x, d⟩) (keyR ⟨n, t, c, x, d⟩)
      rw [if_pos rfl] at this
      exact this
    rw [List.map_cons, List.foldl_cons, groupStep_old _ _ 0 hl (of_decide_eq_true ho)]
    have ha : addTo ([(⟨n, t, c, x, p⟩ : S32)].getD 0 z32) ⟨n, t, c, x, d⟩ = ⟨n, t, c, x, p ++ [d]⟩ := by
      unfold addTo
      have hany : ([(⟨n, t, c, x, p⟩ : S32)].getD 0 z32).f4.any (fun y => y.toList = (⟨n, t, c, x, d⟩ : S39).f4.toList) = false := by
        rw [Bool.eq_false_iff]
        intro h
        obtain ⟨y, hy, he⟩ := List.any_eq_true.1 h
        exact hd (by rw [show d = y from (bytes_eq (of_decide_eq_true he)).symm]; exact hy)
      rw [hany, if_neg (by decide)]
      have hm : mn x x = x := by unfold mn; split <;> rfl
      show (⟨n, t, c, mn x x, p ++ [d]⟩ : S32) = _
      rw [hm]
    rw [ha]
    have := again_fold n t c x ho rest (p ++ [d]) (by rw [List.append_assoc]; exact hn)
    rw [List.append_assoc] at this
    exact this
theorem again_tells {l : List S39} {s : S32} (hs : SetOf l s) : groupTo (recsOf s) (recsOf s).length = [s] := by
  obtain ⟨h1, h2, h3, ⟨q, hq, hk, hq3⟩, _⟩ := hs
  have hne : q.f4 ∈ s.f4 := (h3 _).2 ⟨q, hq, hk, rfl⟩
  obtain ⟨n, t, c, x, ds⟩ := s
  unfold groupTo
  rw [List.take_length]
  cases ds with
  | nil => cases hne
  | cons d ds =>
    show (((⟨n, t, c, x, d⟩ : S39) :: (ds.map fun d => (⟨n, t, c, x, d⟩ : S39))).foldl groupStep []) = _
    rw [List.foldl_cons, groupStep_new _ _ (.inl rfl)]
    exact again_fold n t c x h1 ds [d] h2
theorem again_group {l : List S39} {s : S32} (hs : SetOf l s) (hl : ∀ r ∈ l, okRecG r) (hn : s.f4.length ≤ 1099511627776) : sets_Group.f (recsOf s) = some [s] := by
  have hsz := okN_size hs.1
  obtain ⟨_, _, _, ⟨q, hq, hk, _⟩, _⟩ := id hs
  have hok := hl q hq
  unfold keyR keyS at hk
  simp only [Prod.mk.injEq] at hk
  unfold sets_Group.f
  rw [if_pos ⟨by unfold recsOf; rw [List.length_map]; exact hn, fun r hr => by
    unfold recsOf at hr
    obtain ⟨d, _, rfl⟩ := List.mem_map.1 hr
    exact ⟨by show s.f0.size ≤ _; omega, by show (Lit.int .i64 s.f1).wf = true; rw [← hk.2.1]; exact hok.2.1, by show (Lit.int .i64 s.f2).wf = true; rw [← hk.2.2]; exact hok.2.2⟩⟩, again_tells hs]
theorem mid_one {X : List S32} {k : Nat} (h : k < X.length) : (X.take (k + 1)).drop k = [X.getD k z32] := by
  rw [List.take_succ_eq_append_getElem h, List.drop_append, List.drop_of_length_le (by rw [List.length_take]; omega), List.length_take, Nat.min_eq_left (Nat.le_of_lt h), Nat.sub_self, List.drop_zero, List.nil_append, List.getD_eq_getElem?_getD, List.getElem?_eq_getElem h]
  rfl
end Go.Proofs.Ytdkecfjeiookdaa.PA
