/- Plain words on the document's answers for names and sets (ostiaryref04, ostiaryref22): they tell what name and sets tell. -/
import Derived.Test.YtdkecfjeiookdaaGrLR
import Derived.Test.YtdkecfjeiookdaaGrPAx15
import Derived.Test.YtdkecfjeiookdaaGrPAx18
import Derived.Test.YtdkecfjeiookdaaGrPAx16
import Derived.Test.YtdkecfjeiookdaaGrPAx17
import Derived.Test.YtdkecfjeiookdaaGrPAx10
import Derived.Test.YtdkecfjeiookdaaGrPAx11
namespace Go.Proofs.Ytdkecfjeiookdaa.PA
open Go Go.RowKit Go.Proofs.YtdkecfjeiookdaaW.PrintWords Go.Proofs.YtdkecfjeiookdaaW.PrintLast Go.Proofs.Ytdkecfjeiookdaa.Ro
set_option linter.unusedVariables false

theorem bt_extract (s : ByteArray) (a : Nat) (h : a < s.size) : bt (s.extract a s.size) 0 = bt s (a : Int) := by
  unfold bt
  rw [dif_pos (by rw [ByteArray.size_extract]; simp; omega), dif_pos (by omega)]
  simp [ByteArray.getElem_extract]
theorem one_zero (s : ByteArray) : s.toList = [0] ↔ s.size = 1 ∧ bt s 0 = 0 := by
  rw [Go.Lib.toList_data]
  constructor
  · intro h
    have hs : s.size = 1 := by rw [← data_length, h]; rfl
    refine ⟨hs, ?_⟩
    unfold bt
    rw [dif_pos (by omega)]
    have : s[0]'(by omega) = 0 := by
      have h2 : s.data.toList[0]? = some 0 := by rw [h]; rfl
      rw [Array.getElem?_toList, Array.getElem?_eq_getElem (by show 0 < s.data.size; have : s.data.size = s.size := rfl; omega)] at h2
      exact Option.some.inj h2
    simp only [show (0 : Int).toNat = 0 from rfl]
    rw [this]; rfl
  · rintro ⟨hs, hb⟩
    unfold bt at hb
    rw [dif_pos (by omega)] at hb
    have hl : s.data.toList.length = 1 := by rw [data_length, hs]
    match hd : s.data.toList, hl with
    | [x], _ =>
      have h2 : s[0]'(by omega) = x := by
        have h3 : s.data.toList[0]? = some x := by rw [hd]; rfl
        rw [Array.getElem?_toList, Array.getElem?_eq_getElem (by show 0 < s.data.size; have : s.data.size = s.size := rfl; omega)] at h3
        exact Option.some.inj h3
      simp only [show (0 : Int).toNat = 0 from rfl] at hb
      rw [h2] at hb
      have : x = 0 := UInt8.toNat_inj.1 (by simpa using hb)
      rw [this]
theorem extract_cut (s : ByteArray) (a b : Nat) (h : a ≤ s.size) : (s.extract a s.size).extract b (s.extract a s.size).size = s.extract (a + b) s.size := by
  rw [ByteArray.extract_extract, ByteArray.size_extract]
  congr 1
  omega
theorem extract_in (s : ByteArray) (a b : Nat) (h : a + b ≤ s.size) : (s.extract a s.size).extract 1 b = s.extract (a + 1) (a + b) := by
  rw [ByteArray.extract_extract]
  congr 1
  omega
theorem labs_end {t : ByteArray} (h : t.toList = [0]) : labs t = [] := by rw [labs, if_pos h]
theorem labs_bad {t : ByteArray} (h : ¬ t.toList = [0]) (hb : t.size = 0 ∨ bt t 0 = 0 ∨ bt t 0 > 63 ∨ bt t 0 ≥ t.size) : labs t = [(⟨#[]⟩, false)] := by rw [labs, if_neg h, if_pos hb]
theorem labs_go {t : ByteArray} (h : ¬ t.toList = [0]) (hb : ¬ (t.size = 0 ∨ bt t 0 = 0 ∨ bt t 0 > 63 ∨ bt t 0 ≥ t.size)) : labs t = (t.extract 1 (1 + (bt t 0).toNat), true) :: labs (t.extract (1 + (bt t 0).toNat) t.size) := by rw [labs, if_neg h, if_neg hb]
instance lawfulBytes : LawfulBEq ByteArray where
  eq_of_beq {a b} h := by
    cases a; cases b
    congr
    exact Array.eq_of_isEqv _ _ (by simpa [BEq.beq, ByteArray.beq] using h)
  rfl {a} := by
    cases a
    simp [BEq.beq, ByteArray.beq, Array.isEqv_self]
/-- What the labels from a place on tell. -/
def labsTell (s : ByteArray) (acc : List ByteArray) (t : ByteArray) : List ByteArray × Int :=
  if (labs t).all (·.2) = true then (if (s.size : Int) > 255 then ([], 3) else (acc ++ (labs t).map (·.1), 0)) else ([], 4)
theorem refLabels_loop (s : ByteArray) (hs : s.size ≤ 4398046511104) (d : Nat) : ∀ (k a : Nat) (acc : List ByteArray), a ≤ s.size → s.size - a = d → d + 1 < k → acc.length ≤ a →
    ostiaryref04_Labels.l0 k s acc (a : Int) = some (labsTell s acc (s.extract a s.size)) := by
  induction d using Nat.strongRecOn with
  | _ d ih =>
    intro k a acc ha hd hk hacc
    obtain ⟨k, rfl⟩ : ∃ j, k = j + 1 := ⟨k - 1, by omega⟩
    have hsz : (s.extract a s.size).size = s.size - a := by rw [ByteArray.size_extract]; omega
    simp only [ostiaryref04_Labels.l0]
    unfold labsTell
    by_cases h1 : a = s.size
    · rw [if_pos (by omega), labs_bad (fun h => by have := ((one_zero _).1 h).1; omega) (Or.inl (by omega))]
      simp
    · have hlt : a < s.size := by omega
      have hbt := bt_extract s a hlt
      have hr := bt_range s (a : Int)
      rw [if_neg (by omega), if_pos (by omega), if_pos (by omega), show wrap64 (bt s (a : Int)) = bt s (a : Int) from by unfold wrap64; omega, show wrap64 ((s.size : Int) - 1) = (s.size : Int) - 1 from by unfold wrap64; omega]
      by_cases h2 : bt s (a : Int) = 0
      · rw [if_pos h2]
        by_cases h3 : (a : Int) = (s.size : Int) - 1
        · rw [if_pos h3, labs_end ((one_zero _).2 ⟨by omega, by rw [hbt]; exact h2⟩)]
          simp only [List.all_nil, if_true, List.map_nil, List.append_nil]
          split <;> rfl
        · rw [if_neg h3, labs_bad (fun h => by have := ((one_zero _).1 h).1; omega) (Or.inr (Or.inl (by rw [hbt]; exact h2)))]
          simp
      · rw [if_neg h2]
        have hn1 : ¬ (s.extract a s.size).toList = [0] := fun h => h2 (by rw [← hbt]; exact ((one_zero _).1 h).2)
        by_cases h3 : bt s (a : Int) > 63
        · rw [if_pos h3, labs_bad hn1 (Or.inr (Or.inr (Or.inl (by rw [hbt]; exact h3))))]
          simp
        · obtain ⟨b, hb⟩ : ∃ b : Nat, bt s (a : Int) = b := ⟨(bt s (a : Int)).toNat, by omega⟩
          rw [if_neg h3]
          rw [hb] at h2 h3 hr hbt ⊢
          rw [show wrap64 ((a : Int) + 1) = ((a + 1 : Nat) : Int) from by unfold wrap64; omega, show wrap64 (((a + 1 : Nat) : Int) + (b : Int)) = ((a + 1 + b : Nat) : Int) from by unfold wrap64; omega]
          by_cases h4 : ((a + 1 + b : Nat) : Int) > (s.size : Int)
          · rw [if_pos h4, labs_bad hn1 (Or.inr (Or.inr (Or.inr (by rw [hbt]; omega))))]
            simp
          · rw [if_neg h4, if_pos (by omega), if_pos (by omega), if_pos (by omega), if_pos (by omega)]
            rw [ih (s.size - (a + 1 + b)) (by omega) k (a + 1 + b) _ (by omega) rfl (by omega) (by simp; omega)]
            unfold labsTell
            have hl : labs (s.extract a s.size) = (s.extract (a + 1) (a + 1 + b), true) :: labs (s.extract (a + 1 + b) s.size) := by
              rw [labs_go hn1 (by rw [hbt]; omega), hbt, Int.toNat_natCast, extract_in s a (1 + b) (by omega), extract_cut s a (1 + b) (by omega)]
              rw [show a + (1 + b) = a + 1 + b from by omega]
            rw [hl]
            simp only [List.all_cons, Bool.true_and, List.map_cons, Int.toNat_natCast, List.append_assoc, List.singleton_append]
theorem refLabels_tells (k : Nat) (s : ByteArray) (hs : s.size ≤ 4398046511104) (hk : s.size + 1 < k) : ostiaryref04_Labels.f k s = name_Labels.f s := by
  have h := refLabels_loop s hs s.size k 0 [] (by omega) (by omega) hk (by simp)
  unfold ostiaryref04_Labels.f name_Labels.f
  rw [if_pos hs]
  rw [show ((0 : Nat) : Int) = 0 from rfl, show s.extract 0 s.size = s from ByteArray.extract_zero_size] at h
  rw [h]
  unfold labsTell
  split
  · split <;> simp
  · rfl
theorem refCheck_tells (k : Nat) (s : ByteArray) (hs : s.size ≤ 4398046511104) (hk : s.size + 1 < k) : ostiaryref04_Check.f k s = name_Check.f s := by
  unfold ostiaryref04_Check.f name_Check.f
  rw [refLabels_tells k s hs hk]
theorem refSame_tells (k : Nat) (a b : ByteArray) (ha : a.size ≤ 4398046511104) (hb : b.size ≤ 4398046511104) (hka : a.size + 1 < k) (hkb : b.size + 1 < k) : ostiaryref04_Same.f k a b = some (sameN a b) := by
  rw [← nameSame_tells a b ha hb]
  unfold ostiaryref04_Same.f name_Same.f
  rw [refCheck_tells k a ha hka, refCheck_tells k b hb hkb]
  rfl
def togS (n1 : ByteArray) (t1 c1 : Int) (n2 : ByteArray) (t2 c2 : Int) : Bool := sameN n1 n2 && decide (t1 = t2) && decide (c1 = c2)
theorem together_tells (k : Nat) (n1 : ByteArray) (t1 c1 x1 : Int) (l1 : List ByteArray) (n2 : ByteArray) (t2 c2 x2 : Int) (d2 : ByteArray) (ha : n1.size ≤ 4398046511104) (hb : n2.size ≤ 4398046511104) (hka : n1.size + 1 < k) (hkb : n2.size + 1 < k) :
    ostiaryref22_Together.f k n1 t1 c1 x1 l1 n2 t2 c2 x2 d2 = some (togS n1 t1 c1 n2 t2 c2) := by
  unfold ostiaryref22_Together.f togS
  rw [refSame_tells k n1 n2 ha hb hka hkb, Option.bind_some]
  cases sameN n1 n2 with
  | false => rw [if_neg (by decide)]; simp
  | true =>
    rw [if_pos rfl]
    by_cases h : t1 = t2
    · rw [if_pos h, decide_eq_true h]
      congr 1
    · rw [if_neg h, decide_eq_false h]; simp
theorem has_loop (l : List ByteArray) (a : ByteArray) (hl : l.length ≤ 1099511627776) (d : Nat) : ∀ (k i : Nat), i ≤ l.length → l.length - i = d → d < k → ostiaryref22_Has.l0 k l a (i : Int) = some (decide (a ∈ l.drop i)) := by
  induction d with
  | zero =>
    intro k i h1 h2 h3
    obtain ⟨k, rfl⟩ : ∃ j, k = j + 1 := ⟨k - 1, by omega⟩
    simp only [ostiaryref22_Has.l0]
    rw [if_neg (by omega), List.drop_of_length_le (by omega)]
    simp
  | succ d ih =>
    intro k i h1 h2 h3
    obtain ⟨k, rfl⟩ : ∃ j, k = j + 1 := ⟨k - 1, by omega⟩
    have hlt : i < l.length := by omega
    have q1 : i + 1 ≤ l.length := by omega
    have q2 : l.length - (i + 1) = d := by omega
    have q3 : d < k := by omega
    have hr : rdOf ByteArray.empty l (i : Int) = l[i] := by simp [rdOf, List.getD_eq_getElem?_getD, List.getElem?_eq_getElem hlt]
    simp only [ostiaryref22_Has.l0]
    rw [if_pos (by omega), if_pos (by omega), hr, show wrap64 ((i : Int) + 1) = ((i + 1 : Nat) : Int) from by unfold wrap64; omega, List.drop_eq_getElem_cons hlt]
    by_cases h : l[i].toList = a.toList
    · have e : l[i] = a := bytes_eq h
      rw [if_pos h, decide_eq_true (by rw [e]; simp)]
    · have e : ¬ a = l[i] := fun e => h (by rw [e])
      rw [if_neg h, ih k (i + 1) q1 q2 q3, Option.some.injEq]
      exact decide_eq_decide.2 ⟨fun h => List.mem_cons_of_mem _ h, fun h => (List.mem_cons.1 h).resolve_left e⟩
theorem has_tells (k : Nat) (l : List ByteArray) (a : ByteArray) (hl : l.length ≤ 1099511627776) (hk : l.length < k) : ostiaryref22_Has.f k l a = some (decide (a ∈ l)) := by
  have := has_loop l a hl l.length k 0 (by omega) (by omega) hk
  unfold ostiaryref22_Has.f
  simpa using this
end Go.Proofs.Ytdkecfjeiookdaa.PA
