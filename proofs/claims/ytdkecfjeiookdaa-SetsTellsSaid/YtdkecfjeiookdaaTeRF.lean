/- Plain words on the document's answers for names and sets (ostiaryref04, ostiaryref22): they tell what name and sets tell. -/
import Derived.Test.YtdkecfjeiookdaaTeGI
import Derived.Test.YtdkecfjeiookdaaTePAx3
import Derived.Test.YtdkecfjeiookdaaTePAx5
import Derived.Test.YtdkecfjeiookdaaTePAx15
import Derived.Test.YtdkecfjeiookdaaTePAx18
import Derived.Test.YtdkecfjeiookdaaTePAx16
import Derived.Test.YtdkecfjeiookdaaTePAx17
import Derived.Test.YtdkecfjeiookdaaTePAx10
import Derived.Test.YtdkecfjeiookdaaTePAx11
namespace Go.Proofs.Ytdkecfjeiookdaa.PA
open Go Go.RowKit Go.Proofs.YtdkecfjeiookdaaW.PrintWords Go.Proofs.YtdkecfjeiookdaaW.PrintLast Go.Proofs.Ytdkecfjeiookdaa.Ro
set_option linter.unusedVariables false

theorem bt_extract (s : ByteArray) (a : Nat) (h : a < s.size) : bt (s.extract a s.size) 0 = bt s (a : Int) := by
  unfold bt
  rw [dif_pos (by rw [ByteArray.size_extract]; simp; omega), dif_pos (by omega)]
  simp [ByteArray.getElem_extract]
theorem one_zero (s : ByteArray) : s.toList = [0] ↔ s.size = 1 ∧ bt s 0 = 0 := by
  rw [Go.Lib.toList_data]
  constructor
  · intro h
    have hs : s.size = 1 := by rw [← data_length, h]; rfl
    refine ⟨hs, ?_⟩
    unfold bt
    rw [dif_pos (by omega)]
    have : s[0]'(by omega) = 0 := by
      have h2 : s.data.toList[0]? = some 0 := by rw [h]; rfl
      rw [Array.getElem?_toList, Array.getElem?_eq_getElem (by show 0 < s.data.size; have : s.data.size = s.size := rfl; omega)] at h2
      exact Option.some.inj h2
    simp only [show (0 : Int).toNat = 0 from rfl]
    rw [this]; rfl
  · rintro ⟨hs, hb⟩
    unfold bt at hb
    rw [dif_pos (by omega)] at hb
    have hl : s.data.toList.length = 1 := by rw [data_length, hs]
    match hd : s.data.toList, hl with
    | [x], _ =>
      have h2 : s[0]'(by omega) = x := by
        have h3 : s.data.toList[0]? = some x := by rw [hd]; rfl
        rw [Array.getElem?_toList, Array.getElem?_eq_getElem (by show 0 < s.data.size; have : s.data.size = s.size := rfl; omega)] at h3
        exact Option.some.inj h3
      simp only [show (0 : Int).toNat = 0 from rfl] at hb
      rw [h2] at hb
      have : x = 0 := UInt8.toNat_inj.1 (by simpa using hb)
      rw [this]
theorem extract_cut (s : ByteArray) (a b : Nat) (h : a ≤ s.size) : (s.extract a s.size).extract b (s.extract a s.size).size = s.extract (a + b) s.size := by
  rw [ByteArray.extract_extract, ByteArray.size_extract]
  congr 1
  omega
theorem extract_in (s : ByteArray) (a b : Nat) (h : a + b ≤ s.size) : (s.extract a s.size).extract 1 b = s.extract (a + 1) (a + b) := by
  rw [ByteArray.extract_extract]
  congr 1
  omega
theorem labs_end {t : ByteArray} (h : t.toList = [0]) : labs t = [] := by rw [labs, if_pos h]
theorem labs_bad {t : ByteArray} (h : ¬ t.toList = [0]) (hb : t.size = 0 ∨ bt t 0 = 0 ∨ bt t 0 > 63 ∨ bt t 0 ≥ t.size) : labs t = [(⟨#[]⟩, false)] := by rw [labs, if_neg h, if_pos hb]
theorem labs_go {t : ByteArray} (h : ¬ t.toList = [0]) (hb : ¬ (t.size = 0 ∨ bt t 0 = 0 ∨ bt t 0 > 63 ∨ bt t 0 ≥ t.size)) : labs t = (t.extract 1 (1 + (bt t 0).toNat), true) :: labs (t.extract (1 + (bt t 0).toNat) t.size) := by rw [labs, if_neg h, if_neg hb]
instance lawfulBytes : LawfulBEq ByteArray where
  eq_of_beq {a b} h := by
    cases a; cases b
    congr
    exact Array.eq_of_isEqv _ _ (by simpa [BEq.beq, ByteArray.beq] using h)
  rfl {a} := by
    cases a
    simp [BEq.beq, ByteArray.beq, Array.isEqv_self]
/-- What the labels from a place on tell. -/
def labsTell (s : ByteArray) (acc : List ByteArray) (t : ByteArray) : List ByteArray × Int :=
  if (labs t).all (·.2) = true then (if (s.size : Int) > 255 then ([], 3) else (acc ++ (labs t).map (·.1), 0)) else ([], 4)
theorem refLabels_loop (s : ByteArray) (hs : s.size ≤ 4398046511104) (d : Nat) : ∀ (k a : Nat) (acc : List ByteArray), a ≤ s.size → s.size - a = d → d + 1 < k → acc.length ≤ a →
    ostiaryref04_Labels.l0 k s acc (a : Int) = some (labsTell s acc (s.extract a s.size)) := by
  induction d using Nat.strongRecOn with
  | _ d ih =>
    intro k a acc ha hd hk hacc
    obtain ⟨k, rfl⟩ : ∃ j, k = j + 1 := ⟨k - 1, by omega⟩
    have hsz : (s.extract a s.size).size = s.size - a := by rw [ByteArray.size_extract]; omega
    simp only [ostiaryref04_Labels.l0]
    unfold labsTell
    by_cases h1 : a = s.size
    · rw [if_pos (by omega), labs_bad (fun h => by have := ((one_zero _).1 h).1; omega) (Or.inl (by omega))]
      simp
    · have hlt : a < s.size := by omega
      have hbt := bt_extract s a hlt
      have hr := bt_range s (a : Int)
      rw [if_neg (by omega), if_pos (by omega), if_pos (by omega), show wrap64 (bt s (a : Int)) = bt s (a : Int) from by unfold wrap64; omega, show wrap64 ((s.size : Int) - 1) = (s.size : Int) - 1 from by unfold wrap64; omega]
      by_cases h2 : bt s (a : Int) = 0
      · rw [if_pos h2]
        by_cases h3 : (a : Int) = (s.size : Int) - 1
        · rw [if_pos h3, labs_end ((one_zero _).2 ⟨by omega, by rw [hbt]; exact h2⟩)]
          simp only [List.all_nil, if_true, List.map_nil, List.append_nil]
          split <;> rfl
        · rw [if_neg h3, labs_bad (fun h => by have := ((one_zero _).1 h).1; omega) (Or.inr (Or.inl (by rw [hbt]; exact h2)))]
          simp
      · rw [if_neg h2]
        have hn1 : ¬ (s.extract a s.size).toList = [0] := fun h => h2 (by rw [← hbt]; exact ((one_zero _).1 h).2)
        by_cases h3 : bt s (a : Int) > 63
        · rw [if_pos h3, labs_bad hn1 (Or.inr (Or.inr (Or.inl (by rw [hbt]; exact h3))))]
          simp
        · obtain ⟨b, hb⟩ : ∃ b : Nat, bt s (a : Int) = b := ⟨(bt s (a : Int)).toNat, by omega⟩
          rw [if_neg h3]
          rw [hb] at h2 h3 hr hbt ⊢
          rw [show wrap64 ((a : Int) + 1) = ((a + 1 : Nat) : Int) from by unfold wrap64; omega, show wrap64 (((a + 1 : Nat) : Int) + (b : Int)) = ((a + 1 + b : Nat) : Int) from by unfold wrap64; omega]
          by_cases h4 : ((a + 1 + b : Nat) : Int) > (s.size : Int)
          · rw [if_pos h4, labs_bad hn1 (Or.inr (Or.inr (Or.inr (by rw [hbt]; omega))))]
            simp
          · rw [if_neg h4, if_pos (by omega), if_pos (by omega), if_pos (by omega), if_pos (by omega)]
            rw [ih (s.size - (a + 1 + b)) (by omega) k (a + 1 + b) _ (by omega) rfl (by omega) (by simp; omega)]
            unfold labsTell
            have hl : labs (s.extract a s.size) = (s.extract (a + 1) (a + 1 + b), true) :: labs (s.extract (a + 1 + b) s.size) := by
              rw [labs_go hn1 (by rw [hbt]; omega), hbt, Int.toNat_natCast, extract_in s a (1 + b) (by omega), extract_cut s a (1 + b) (by omega)]
              rw [show a + (1 + b) = a + 1 + b from by omega]
            rw [hl]
            simp only [List.all_cons, Bool.true_and, List.map_cons, Int.toNat_natCast, List.append_assoc, List.singleton_append]
theorem refLabels_tells (k : Nat) (s : ByteArray) (hs : s.size ≤ 4398046511104) (hk : s.size + 1 < k) : ostiaryref04_Labels.f k s = name_Labels.f s := by
  have h := refLabels_loop s hs s.size k 0 [] (by omega) (by omega) hk (by simp)
  unfold ostiaryref04_Labels.f name_Labels.f
  rw [if_pos hs]
  rw [show ((0 : Nat) : Int) = 0 from rfl, show s.extract 0 s.size = s from ByteArray.extract_zero_size] at h
  rw [h]
  unfold labsTell
  split
  · split <;> simp
  · rfl
theorem refCheck_tells (k : Nat) (s : ByteArray) (hs : s.size ≤ 4398046511104) (hk : s.size + 1 < k) : ostiaryref04_Check.f k s = name_Check.f s := by
  unfold ostiaryref04_Check.f name_Check.f
  rw [refLabels_tells k s hs hk]
theorem refSame_tells (k : Nat) (a b : ByteArray) (ha : a.size ≤ 4398046511104) (hb : b.size ≤ 4398046511104) (hka : a.size + 1 < k) (hkb : b.size + 1 < k) : ostiaryref04_Same.f k a b = some (sameN a b) := by
  rw [← nameSame_tells a b ha hb]
  unfold ostiaryref04_Same.f name_Same.f
  rw [refCheck_tells k a ha hka, refCheck_tells k b hb hkb]
  rfl
def togS (n1 : ByteArray) (t1 c1 : Int) (n2 : ByteArray) (t2 c2 : Int) : Bool := sameN n1 n2 && decide (t1 = t2) && decide (c1 = c2)
theorem together_tells (k : Nat) (n1 : ByteArray) (t1 c1 x1 : Int) (l1 : List ByteArray) (n2 : ByteArray) (t2 c2 x2 : Int) (d2 : ByteArray) (ha : n1.size ≤ 4398046511104) (hb : n2.size ≤ 4398046511104) (hka : n1.size + 1 < k) (hkb : n2.size + 1 < k) :
    ostiaryref22_Together.f k n1 t1 c1 x1 l1 n2 t2 c2 x2 d2 = some (togS n1 t1 c1 n2 t2 c2) := by
  unfold ostiaryref22_Together.f togS
  rw [refSame_tells k n1 n2 ha hb hka hkb, Option.bind_some]
  cases sameN n1 n2 with
  | false => rw [if_neg (by decide)]; simp
  | true =>
    rw [if_pos rfl]
    by_cases h : t1 = t2
    · rw [if_pos h, decide_eq_true h]
      congr 1
    · rw [if_neg h, decide_eq_false h]; simp
/-- How often. -/
theorem times_loop (l : List ByteArray) (a : ByteArray) (hl : l.length ≤ 1099511627776) (d : Nat) : ∀ (k i : Nat) (n : Nat), i ≤ l.length → l.length - i = d → d < k → n ≤ i → ostiaryref22_times.l0 k l a (n : Int) (i : Int) = some ((n + (l.drop i).count a : Nat) : Int) := by
  induction d with
  | zero =>
    intro k i n h1 h2 h3 h4
    obtain ⟨k, rfl⟩ : ∃ j, k = j + 1 := ⟨k - 1, by omega⟩
    simp only [ostiaryref22_times.l0]
    rw [if_neg (by omega), List.drop_of_length_le (by omega)]
    simp
  | succ d ih =>
    intro k i n h1 h2 h3 h4
    obtain ⟨k, rfl⟩ : ∃ j, k = j + 1 := ⟨k - 1, by omega⟩
    have hlt : i < l.length := by omega
    have q1 : i + 1 ≤ l.length := by omega
    have q2 : l.length - (i + 1) = d := by omega
    have q3 : d < k := by omega
    have hr : rdOf ByteArray.empty l (i : Int) = l[i] := by simp [rdOf, List.getD_eq_getElem?_getD, List.getElem?_eq_getElem hlt]
    simp only [ostiaryref22_times.l0]
    rw [if_pos (by omega), if_pos (by omega), hr, show wrap64 ((i : Int) + 1) = ((i + 1 : Nat) : Int) from by unfold wrap64; omega, List.drop_eq_getElem_cons hlt, List.count_cons]
    by_cases h : l[i].toList = a.toList
    · have e : l[i] = a := bytes_eq h
      rw [if_pos h, show wrap64 ((n : Int) + 1) = ((n + 1 : Nat) : Int) from by unfold wrap64; omega, ih k (i + 1) (n + 1) q1 q2 q3 (by omega), e]
      simp
      omega
    · have e : ¬ l[i] = a := fun e => h (by rw [e])
      rw [if_neg h, ih k (i + 1) n q1 q2 q3 (by omega)]
      simp [e]
theorem times_tells (k : Nat) (l : List ByteArray) (a : ByteArray) (hl : l.length ≤ 1099511627776) (hk : l.length < k) : ostiaryref22_times.f k l a = some (l.count a : Int) := by
  have := times_loop l a hl l.length k 0 0 (by omega) (by omega) hk (by omega)
  unfold ostiaryref22_times.f
  simpa using this
theorem perm_of_counts : ∀ (a b : List ByteArray), a.length = b.length → (∀ x ∈ a, a.count x = b.count x) → a.Perm b
  | [], b, h, _ => by
    have : b = [] := List.length_eq_zero_iff.1 h.symm
    rw [this]
  | x :: a, b, h, hc => by
    have hx : x ∈ b := by
      have := hc x (by simp)
      rw [List.count_cons_self] at this
      exact List.count_pos_iff.1 (by omega)
    refine ((perm_of_counts a (b.erase x) ?_ ?_).cons x).trans (List.perm_cons_erase hx).symm
    · rw [List.length_erase_of_mem hx]
      simp only [List.length_cons] at h
      omega
    · intro y hy
      have := hc y (by simp [hy])
      rw [List.count_cons] at this
      rw [List.count_erase]
      by_cases e : x = y
      · subst e
        simp only [beq_self_eq_true, if_true] at this ⊢
        omega
      · have e1 : (x == y) = false := beq_eq_false_iff_ne.2 e
        have e2 : (y == x) = false := beq_eq_false_iff_ne.2 (fun h => e h.symm)
        simp only [e1] at this ⊢
        simpa using this
theorem refSame_loop (n1 : ByteArray) (t1 c1 x1 : Int) (l1 : List ByteArray) (n2 : ByteArray) (t2 c2 x2 : Int) (l2 : List ByteArray) (h1 : l1.length ≤ 1099511627776) (h2 : l2.length ≤ 1099511627776) (d : Nat) : ∀ (k i : Nat), i ≤ l1.length → l1.length - i = d → d + l1.length + l2.length < k →
    ∃ q, ostiaryref22_Same.l0 k (i : Int) n1 t1 c1 x1 l1 n2 t2 c2 x2 l2 = some q ∧ (q = true ↔ ∀ x ∈ l1.drop i, l1.count x = l2.count x) := by
  induction d with
  | zero =>
    intro k i a1 a2 a3
    obtain ⟨k, rfl⟩ : ∃ j, k = j + 1 := ⟨k - 1, by omega⟩
    simp only [ostiaryref22_Same.l0]
    rw [if_neg (by omega), List.drop_of_length_le (by omega)]
    exact ⟨true, rfl, by simp⟩
  | succ d ih =>
    intro k i a1 a2 a3
    obtain ⟨k, rfl⟩ : ∃ j, k = j + 1 := ⟨k - 1, by omega⟩
    have hlt : i < l1.length := by omega
    have q1 : i + 1 ≤ l1.length := by omega
    have q2 : l1.length - (i + 1) = d := by omega
    have q3 : d + l1.length + l2.length < k := by omega
    have hr : rdOf ByteArray.empty l1 (i : Int) = l1[i] := by simp [rdOf, List.getD_eq_getElem?_getD, List.getElem?_eq_getElem hlt]
    simp only [ostiaryref22_Same.l0]
    rw [if_pos (by omega), if_pos (by omega), hr, times_tells k l1 _ h1 (by omega), Option.bind_some, times_tells k l2 _ h2 (by omega), Option.bind_some, show wrap64 ((i : Int) + 1) = ((i + 1 : Nat) : Int) from by unfold wrap64; omega]
    obtain ⟨q, hq, hqq⟩ := ih k (i + 1) q1 q2 q3
    rw [List.drop_eq_getElem_cons hlt]
    by_cases h : ((l1.count l1[i] : Nat) : Int) = ((l2.count l1[i] : Nat) : Int)
    · rw [if_pos h]
      refine ⟨q, hq, hqq.trans ⟨fun hh x hx => ?_, fun hh x hx => hh x (List.mem_cons_of_mem _ hx)⟩⟩
      rcases List.mem_cons.1 hx with rfl | hx
      · exact Int.ofNat.inj h
      · exact hh x hx
    · rw [if_neg h]
      exact ⟨false, rfl, iff_of_false (by decide) (fun hh => h (by rw [hh _ List.mem_cons_self]))⟩
theorem refSameS_tells (k : Nat) (n1 : ByteArray) (t1 c1 x1 : Int) (l1 : List ByteArray) (n2 : ByteArray) (t2 c2 x2 : Int) (l2 : List ByteArray) (h1 : l1.length ≤ 1099511627776) (h2 : l2.length ≤ 1099511627776) (ha : n1.size ≤ 4398046511104) (hb : n2.size ≤ 4398046511104) (hk : n1.size + n2.size + 2 * l1.length + l2.length + 2 < k) :
    ostiaryref22_Same.f k n1 t1 c1 x1 l1 n2 t2 c2 x2 l2 = some (sameS n1 t1 c1 l1 n2 t2 c2 l2) := by
  obtain ⟨k, rfl⟩ : ∃ j, k = j + 1 := ⟨k - 1, by omega⟩
  have stop : ostiaryref22_Same.j0 (k + 1) true n1 t1 c1 x1 l1 n2 t2 c2 x2 l2 = some false := by simp only [ostiaryref22_Same.j0]; rfl
  unfold ostiaryref22_Same.f
  rw [together_tells (k + 1) _ _ _ _ _ _ _ _ _ _ ha hb (by omega) (by omega), Option.bind_some]
  have e : sameS n1 t1 c1 l1 n2 t2 c2 l2 = (togS n1 t1 c1 n2 t2 c2 && decide (sortT l1 = sortT l2)) := by
    unfold sameS togS
    cases sameN n1 n2 <;> cases decide (t1 = t2) <;> cases decide (c1 = c2) <;> cases decide (sortT l1 = sortT l2) <;> rfl
  rw [e]
  cases togS n1 t1 c1 n2 t2 c2 with
  | false => rw [if_neg (by decide), stop]; rfl
  | true =>
    rw [if_pos rfl, Bool.true_and]
    by_cases hl : l1.length = l2.length
    · rw [show ((l1.length : Int) != (l2.length : Int)) = false from by rw [hl]; simp]
      simp only [ostiaryref22_Same.j0]
      rw [if_neg (by decide)]
      obtain ⟨q, hq, hqq⟩ := refSame_loop n1 t1 c1 x1 l1 n2 t2 c2 x2 l2 h1 h2 l1.length k 0 (by omega) (by omega) (by omega)
      rw [show ((0 : Nat) : Int) = 0 from rfl] at hq
      rw [hq, Option.some.injEq, Bool.eq_iff_iff, hqq, decide_eq_true_iff, List.drop_zero, sortT_iff]
      exact ⟨perm_of_counts l1 l2 hl, fun hp x _ => hp.count_eq x⟩
    · rw [show ((l1.length : Int) != (l2.length : Int)) = true from by simp; omega, stop, decide_eq_false (fun h => hl ((sortT_iff l1 l2).1 h).length_eq)]
theorem has_loop (l : List ByteArray) (a : ByteArray) (hl : l.length ≤ 1099511627776) (d : Nat) : ∀ (k i : Nat), i ≤ l.length → l.length - i = d → d < k → ostiaryref22_Has.l0 k l a (i : Int) = some (decide (a ∈ l.drop i)) := by
  induction d with
  | zero =>
    intro k i h1 h2 h3
    obtain ⟨k, rfl⟩ : ∃ j, k = j + 1 := ⟨k - 1, by omega⟩
    simp only [ostiaryref22_Has.l0]
    rw [if_neg (by omega), List.drop_of_length_le (by omega)]
    simp
  | succ d ih =>
    intro k i h1 h2 h3
    obtain ⟨k, rfl⟩ : ∃ j, k = j + 1 := ⟨k - 1, by omega⟩
    have hlt : i < l.length := by omega
    have q1 : i + 1 ≤ l.length := by omega
    have q2 : l.length - (i + 1) = d := by omega
    have q3 : d < k := by omega
    have hr : rdOf ByteArray.empty l (i : Int) = l[i] := by simp [rdOf, List.getD_eq_getElem?_getD, List.getElem?_eq_getElem hlt]
    simp only [ostiaryref22_Has.l0]
    rw [if_pos (by omega), if_pos (by omega), hr, show wrap64 ((i : Int) + 1) = ((i + 1 : Nat) : Int) from by unfold wrap64; omega, List.drop_eq_getElem_cons hlt]
    by_cases h : l[i].toList = a.toList
    · have e : l[i] = a := bytes_eq h
      rw [if_pos h, decide_eq_true (by rw [e]; simp)]
    · have e : ¬ a = l[i] := fun e => h (by rw [e])
      rw [if_neg h, ih k (i + 1) q1 q2 q3, Option.some.injEq]
      exact decide_eq_decide.2 ⟨fun h => List.mem_cons_of_mem _ h, fun h => (List.mem_cons.1 h).resolve_left e⟩
theorem has_tells (k : Nat) (l : List ByteArray) (a : ByteArray) (hl : l.length ≤ 1099511627776) (hk : l.length < k) : ostiaryref22_Has.f k l a = some (decide (a ∈ l)) := by
  have := has_loop l a hl l.length k 0 (by omega) (by omega) hk
  unfold ostiaryref22_Has.f
  simpa using this
theorem refCheckS_loop (n : ByteArray) (t c x : Int) (l : List ByteArray) (hl : l.length ≤ 1099511627776) (d : Nat) : ∀ (k i : Nat), i ≤ l.length → l.length - i = d → d + l.length < k → dataOk (l.take i) = true →
    ostiaryref22_Check.l0 k (i : Int) n t c x l = some (if dataOk l = true then 0 else 2) := by
  induction d with
  | zero =>
    intro k i h1 h2 h3 h4
    obtain ⟨k, rfl⟩ : ∃ j, k = j + 1 := ⟨k - 1, by omega⟩
    simp only [ostiaryref22_Check.l0]
    rw [List.take_of_length_le (by omega)] at h4
    rw [if_neg (by omega), if_pos h4]
  | succ d ih =>
    intro k i h1 h2 h3 h4
    obtain ⟨k, rfl⟩ : ∃ j, k = j + 1 := ⟨k - 1, by omega⟩
    have hlt : i < l.length := by omega
    have q1 : i + 1 ≤ l.length := by omega
    have q2 : l.length - (i + 1) = d := by omega
    have q3 : d + l.length < k := by omega
    have hr : rdOf ByteArray.empty l (i : Int) = l[i] := by simp [rdOf, List.getD_eq_getElem?_getD, List.getElem?_eq_getElem hlt]
    have hstep := dataTo_succ l i hlt
    unfold dataTo at hstep
    have hall : dataOk l = true → ∀ j, dataOk (l.take j) = true := fun h j => by
      unfold dataOk at h ⊢
      simp only [Bool.and_eq_true, decide_eq_true_eq, List.all_eq_true] at h ⊢
      exact ⟨h.1.sublist (List.take_sublist _ _), fun y hy => h.2 y (List.mem_of_mem_take hy)⟩
    simp only [ostiaryref22_Check.l0]
    rw [if_pos (by omega), if_pos (by omega), hr, Int.toNat_natCast]
    by_cases ha : ((l[i].size : Nat) : Int) > 65535
    · rw [if_pos ha, if_neg (fun h => ?_)]
      have := hall h (i + 1)
      rw [hstep, show decide (l[i].size ≤ 65535) = false from decide_eq_false (by omega)] at this
      simp at this
    · rw [if_neg ha, if_pos (by omega), has_tells k (l.take i) _ (by rw [List.length_take]; omega) (by rw [List.length_take]; omega), Option.bind_some]
      by_cases hm : l[i] ∈ l.take i
      · rw [decide_eq_true hm, if_pos rfl, if_neg (fun h => ?_)]
        have := hall h (i + 1)
        rw [hstep, show (metS (l.take i) l[i]).isSome = true from by
          unfold metS
          rw [if_pos (List.any_eq_true.2 ⟨_, hm, by simp⟩)]; rfl] at this
        simp at this
      · rw [decide_eq_false hm, if_neg (by decide), show wrap64 ((i : Int) + 1) = ((i + 1 : Nat) : Int) from by unfold wrap64; omega]
        refine ih k (i + 1) q1 q2 q3 ?_
        rw [hstep, h4, show decide (l[i].size ≤ 65535) = true from decide_eq_true (by omega), show (metS (l.take i) l[i]).isSome = false from by
          unfold metS
          rw [if_neg (fun h => by obtain ⟨y, hy, e⟩ := List.any_eq_true.1 h; exact hm (of_decide_eq_true e ▸ hy))]; rfl]
        rfl
theorem refCheckS_tells (k : Nat) (n : ByteArray) (t c x : Int) (l : List ByteArray) (hn : n.size ≤ 4398046511104) (hl : l.length ≤ 1099511627776) (hx : ∀ x ∈ l, x.size ≤ 9223372036854775807) (hk : n.size + 2 * l.length + 2 < k) : ostiaryref22_Check.f k n t c x l = sets_Check.f n t c x l := by
  obtain ⟨k, rfl⟩ : ∃ j, k = j + 1 := ⟨k - 1, by omega⟩
  obtain ⟨e, he⟩ := check_some n hn
  have stop : ostiaryref22_Check.j0 (k + 1) true n t c x l = some 2 := by simp only [ostiaryref22_Check.j0]; rfl
  unfold ostiaryref22_Check.f sets_Check.f ostiaryref22_number.f
  rw [refCheck_tells (k + 1) n hn (by omega), if_pos hx, he, Option.bind_some, Option.bind_some]
  have no : ¬ (e = 0 ∧ 0 ≤ t ∧ t ≤ 65535 ∧ 0 ≤ c ∧ c ≤ 65535 ∧ 0 ≤ x ∧ x < 2147483648 ∧ 1 ≤ l.length ∧ l.length ≤ 64 ∧ dataOk l = true) → (some 2 : Option Int) = if e = 0 ∧ 0 ≤ t ∧ t ≤ 65535 ∧ 0 ≤ c ∧ c ≤ 65535 ∧ 0 ≤ x ∧ x < 2147483648 ∧ 1 ≤ l.length ∧ l.length ≤ 64 ∧ dataOk l = true then some 0 else some 2 := fun h => by rw [if_neg h]
  have num : ∀ a m : Int, (if a ≥ 0 then some (decide (a ≤ m)) else some false) = some (decide (0 ≤ a ∧ a ≤ m)) := fun a m => by
    by_cases h : a ≥ 0
    · rw [if_pos h]; congr 1; exact decide_eq_decide.2 ⟨fun h2 => ⟨h, h2⟩, fun h2 => h2.2⟩
    · rw [if_neg h, decide_eq_false (fun h2 => h h2.1)]
  rw [num, num, num]
  simp only [Option.bind_some]
  by_cases h0 : e = 0
  case neg => rw [if_neg h0, stop]; exact no (fun h => h0 h.1)
  rw [if_pos h0]
  by_cases h1 : 0 ≤ t ∧ t ≤ 65535
  case neg => rw [decide_eq_false h1, if_neg (by decide), stop]; exact no (fun h => h1 ⟨h.2.1, h.2.2.1⟩)
  rw [decide_eq_true h1, if_pos rfl]
  by_cases h2 : 0 ≤ c ∧ c ≤ 65535
  case neg => rw [decide_eq_false h2, if_neg (by decide), stop]; exact no (fun h => h2 ⟨h.2.2.2.1, h.2.2.2.2.1⟩)
  rw [decide_eq_true h2, if_pos rfl]
  by_cases h3 : 0 ≤ x ∧ x ≤ 2147483647
  case neg => rw [decide_eq_false h3, if_neg (by decide), stop]; exact no (fun h => h3 ⟨h.2.2.2.2.2.1, by have := h.2.2.2.2.2.2.1; omega⟩)
  rw [decide_eq_true h3, if_pos rfl]
  by_cases h4 : (l.length : Int) < 1
  case pos => rw [if_pos h4, stop]; exact no (fun h => by have := h.2.2.2.2.2.2.2.1; omega)
  rw [if_neg h4]
  by_cases h5 : (l.length : Int) > 64
  case pos => rw [decide_eq_true h5, stop]; exact no (fun h => by have := h.2.2.2.2.2.2.2.2.1; omega)
  rw [decide_eq_false h5]
  simp only [ostiaryref22_Check.j0]
  rw [if_neg (by decide)]
  have := refCheckS_loop n t c x l hl l.length k 0 (by omega) (by omega) (by omega) (by simp [dataOk])
  rw [show ((0 : Nat) : Int) = 0 from rfl] at this
  rw [this]
  by_cases h6 : dataOk l = true
  · rw [if_pos h6, if_pos ⟨h0, h1.1, h1.2, h2.1, h2.2, h3.1, by omega, by omega, by omega, h6⟩]
  · rw [if_neg h6, if_neg (fun h => h6 h.2.2.2.2.2.2.2.2.2)]
/-- A set's records. -/
def recsOf (s : S32) : List S39 := s.f4.map fun d => ⟨s.f0, s.f1, s.f2, s.f3, d⟩
theorem rdOf_at (l : List ByteArray) (i : Nat) (h : i < l.length) : rdOf ByteArray.empty l (i : Int) = l[i] := by simp [rdOf, List.getD_eq_getElem?_getD, List.getElem?_eq_getElem h]
theorem recs_loop (s : S32) (hl : s.f4.length ≤ 1099511627776) (d : Nat) : ∀ (k i : Nat), i ≤ s.f4.length → s.f4.length - i = d → d < k →
    sets_Recs.l0 k ((recsOf s).take i) s.f4 (s.f4.length : Int) (i : Int) s.f0 s.f1 s.f2 s.f3 s.f4 = some (recsOf s) := by
  have hlen : (recsOf s).length = s.f4.length := by unfold recsOf; simp
  induction d with
  | zero =>
    intro k i h1 h2 h3
    obtain ⟨k, rfl⟩ : ∃ j, k = j + 1 := ⟨k - 1, by omega⟩
    simp only [sets_Recs.l0]
    rw [if_neg (by omega), List.take_of_length_le (by omega)]
  | succ d ih =>
    intro k i h1 h2 h3
    obtain ⟨k, rfl⟩ : ∃ j, k = j + 1 := ⟨k - 1, by omega⟩
    have hlt : i < s.f4.length := by omega
    have q1 : i + 1 ≤ s.f4.length := by omega
    have q2 : s.f4.length - (i + 1) = d := by omega
    simp only [sets_Recs.l0]
    rw [if_pos (by omega), if_pos (by omega), if_pos (by omega), if_pos (by rw [List.length_take]; omega), rdOf_at _ _ hlt, show wrap64 ((i : Int) + 1) = ((i + 1 : Nat) : Int) from by unfold wrap64; omega]
    rw [show (recsOf s).take i ++ [(⟨s.f0, s.f1, s.f2, s.f3, s.f4[i]⟩ : S39)] = (recsOf s).take (i + 1) from by
      rw [List.take_succ_eq_append_getElem (by omega)]
      congr 2
      unfold recsOf
      rw [List.getElem_map]]
    exact ih k (i + 1) q1 q2 (by omega)
theorem recs_tells (k : Nat) (s : S32) (hl : s.f4.length ≤ 1099511627776) (hk : s.f4.length < k) : sets_Recs.f k s.f0 s.f1 s.f2 s.f3 s.f4 = some (recsOf s) := by
  have := recs_loop s hl s.f4.length k 0 (by omega) (by omega) hk
  unfold sets_Recs.f
  rw [show ((0 : Nat) : Int) = 0 from rfl, List.take_zero] at this
  exact this
theorem refRecs_loop (s : S32) (hl : s.f4.length ≤ 1099511627776) (d : Nat) : ∀ (k i : Nat), i ≤ s.f4.length → s.f4.length - i = d → d < k →
    ostiaryref22_Recs.l0 k ((recsOf s).take i) (i : Int) s.f0 s.f1 s.f2 s.f3 s.f4 = some (recsOf s) := by
  have hlen : (recsOf s).length = s.f4.length := by unfold recsOf; simp
  induction d with
  | zero =>
    intro k i h1 h2 h3
    obtain ⟨k, rfl⟩ : ∃ j, k = j + 1 := ⟨k - 1, by omega⟩
    simp only [ostiaryref22_Recs.l0]
    rw [if_neg (by omega), List.take_of_length_le (by omega)]
  | succ d ih =>
    intro k i h1 h2 h3
    obtain ⟨k, rfl⟩ : ∃ j, k = j + 1 := ⟨k - 1, by omega⟩
    have hlt : i < s.f4.length := by omega
    have q1 : i + 1 ≤ s.f4.length := by omega
    have q2 : s.f4.length - (i + 1) = d := by omega
    simp only [ostiaryref22_Recs.l0]
    rw [if_pos (by omega), if_pos (by omega), if_pos (by rw [List.length_take]; omega), rdOf_at _ _ hlt, show wrap64 ((i : Int) + 1) = ((i + 1 : Nat) : Int) from by unfold wrap64; omega]
    rw [show (recsOf s).take i ++ [(⟨s.f0, s.f1, s.f2, s.f3, s.f4[i]⟩ : S39)] = (recsOf s).take (i + 1) from by
      rw [List.take_succ_eq_append_getElem (by omega)]
      congr 2
      unfold recsOf
      rw [List.getElem_map]]
    exact ih k (i + 1) q1 q2 (by omega)
theorem refRecs_tells (k : Nat) (s : S32) (hl : s.f4.length ≤ 1099511627776) (hk : s.f4.length < k) : ostiaryref22_Recs.f k s.f0 s.f1 s.f2 s.f3 s.f4 = some (recsOf s) := by
  have := refRecs_loop s hl s.f4.length k 0 (by omega) (by omega) hk
  unfold ostiaryref22_Recs.f
  rw [show ((0 : Nat) : Int) = 0 from rfl, List.take_zero] at this
  exact this
/-- A set with a lesser TTL. -/
def lessT (x n : Int) : Int := if n < 0 then x else if x < n then mn x 0 else wrap64 (x - n)
theorem lessS_tells (n0 : ByteArray) (t c x : Int) (l : List ByteArray) (n : Int) (hl : l.length * 16 ≤ 140737488355328) : sets_Less.f n0 t c x l n = some (n0, t, c, lessT x n, l) := by
  unfold sets_Less.f slices_Clone_string_string.f lessT
  rw [if_pos hl, Option.bind_some]
  split
  · rfl
  · split <;> rfl
theorem refLess_tells (n0 : ByteArray) (t c x : Int) (l : List ByteArray) (n : Int) (hl : l.length ≤ 1099511627776) : ostiaryref22_Less.f n0 t c x l n = some (n0, t, c, lessT x n, l) := by
  have h0 : ([] : List ByteArray).length + l.length < 8796093022208 := by rw [List.length_nil, Nat.zero_add]; omega
  unfold ostiaryref22_Less.f lessT
  rw [Option.bind_some, if_pos h0, Option.bind_some, List.nil_append]
  split
  · rfl
  · split <;> rfl
end Go.Proofs.Ytdkecfjeiookdaa.PA
