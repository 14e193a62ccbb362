import Derived.Test.YtdkecfjeiookdaaProg
import Derived.Below
import Derived.Deep.Draws
import Derived.Deep.AppendLies
import Derived.Maps.AppendAt
import Derived.OwnWalk
import Derived.Laws.BytesArg
import Derived.Laws.MakeOwn
import Derived.Laws.OwnMore
import Derived.Deep.OwnRows
import Derived.Tactics
import Derived.Lib.ConvBytes
import Derived.Laws.Slices
import Derived.WalkKit
import Derived.KernelRfl
import Derived.RowKit3
import Derived.Deep.LoopGhost
import Derived.Deep.QuietTactic
import Derived.BigQuiet
import Derived.WideLaws
import Derived.Deep.DeepCutAuto
import Derived.Deep.CutBlock
import Derived.Deep.RegionHeld3
import Derived.Laws.Rows
import Derived.Lib.AppendStr
import Derived.ArgAppend
import Derived.Laws.IdiomCopy
import Derived.OrdersHeld
import Derived.Laws.BitsLemmas
import Derived.RowKit
import Derived.Test.YtdkecfjeiookdaaWWords
import Derived.Test.YtdkecfjeiookdaaWLast
import Derived.Test.YtdkecfjeiookdaaWTab
import Derived.Test.YtdkecfjeiookdaaWFour
import Derived.Test.YtdkecfjeiookdaaWQPut
import Derived.Test.YtdkecfjeiookdaaWApart
import Derived.Test.YtdkecfjeiookdaaWArr
import Derived.Test.YtdkecfjeiookdaaWZeros
import Derived.Test.YtdkecfjeiookdaaWFoot
import Derived.Test.YtdkecfjeiookdaaWKept
import Derived.Test.YtdkecfjeiookdaaWShare
import Derived.Test.YtdkecfjeiookdaaWN
import Derived.Test.YtdkecfjeiookdaaWFootNe
import Derived.Test.YtdkecfjeiookdaaWAt
import Derived.Test.YtdkecfjeiookdaaWEqStruct
import Derived.Test.YtdkecfjeiookdaaWRepsOne
import Derived.Test.YtdkecfjeiookdaaWInv
import Derived.Test.YtdkecfjeiookdaaWInvWords
import Derived.Test.YtdkecfjeiookdaaWGuard
import Derived.Test.YtdkecfjeiookdaaWNEv
import Derived.Test.YtdkecfjeiookdaaWMore
import Derived.ProofKit
import Derived.OpenShut
import Derived.ChangeArms
import Derived.Deep.Slices
import Derived.SizedLaws
import Derived.Maps.OwnSet
import Derived.Maps.Ext
import Derived.DeepKeys5
import Derived.Lib.Hide
-- printed out of the translation by the kit's print (wip/tools/given.py), and cut by wip/tools/trim.py: Lean checks it.
namespace Go.Proofs.Ytdkecfjeiookdaa.PA
open Go.RowKit Go.Proofs.YtdkecfjeiookdaaW.PrintWords Go.Proofs.YtdkecfjeiookdaaW.PrintLast Go.Proofs.YtdkecfjeiookdaaW.PrintMore
attribute [local go_sem] max2_int min2_int max_two min_two max_three min_three max_four min_four   -- for this text's walks alone
set_option linter.unusedVariables false
set_option linter.unusedSimpArgs false

def errW : Option Int → Value
  | none => .nilIface
  | some c => .iface 0 (.int .i64 c)
theorem errW_none : errW none = .nilIface := rfl
theorem errW_some (c : Int) : errW (some c) = .iface 0 (.int .i64 c) := rfl

theorem info39 : (Try.prog.info? 39).map (fun i => (i.zero, i.size, i.bytes)) = some (some (.agg #[(.string ⟨#[]⟩), (.int .i64 0), (.int .i64 0), (.int .i64 0), (.string ⟨#[]⟩)]), 5, 56) := by kernel_rfl
-- the values' own types
/-! #### struct type 39 -/
structure S39 where
  f0 : ByteArray
  f1 : Int
  f2 : Int
  f3 : Int
  f4 : ByteArray
def z39 : S39 := ⟨(⟨#[]⟩ : ByteArray), (0 : Int), (0 : Int), (0 : Int), (⟨#[]⟩ : ByteArray)⟩
def k39 : Kd S39 := Kd.iso (Kd.pair Kd.string (Kd.pair (Kd.int .i64) (Kd.pair (Kd.int .i64) (Kd.pair (Kd.int .i64) Kd.string)))) (fun x : S39 => (x.f0, x.f1, x.f2, x.f3, x.f4))
theorem k39_open {w : World} {x : S39} {cs : List Value} (h : k39.K w x cs) : cs = [.string x.f0, .int .i64 x.f1, .int .i64 x.f2, .int .i64 x.f3, .string x.f4] := by
  obtain ⟨_, _, rfl, rfl, ⟨_, _, rfl, rfl, ⟨_, _, rfl, rfl, ⟨_, _, rfl, rfl, rfl⟩⟩⟩⟩ := h
  exact rfl
theorem k39_mkM (w : World) (base : Nat) (ok : Nat → Prop) (x : S39)  : k39.M w base ok x [.string x.f0, .int .i64 x.f1, .int .i64 x.f2, .int .i64 x.f3, .string x.f4] := ⟨[.string x.f0], [.int .i64 x.f1, .int .i64 x.f2, .int .i64 x.f3, .string x.f4], rfl, rfl, ⟨[.int .i64 x.f1], [.int .i64 x.f2, .int .i64 x.f3, .string x.f4], rfl, rfl, ⟨[.int .i64 x.f2], [.int .i64 x.f3, .string x.f4], rfl, rfl, ⟨[.int .i64 x.f3], [.string x.f4], rfl, rfl, rfl⟩⟩⟩⟩
def rd_T39 (xs : List S39) (i : Int) : S39 := xs.getD i.toNat z39
theorem at_T39 {w : World} {A : Option Addr} {n : Nat} {xs : List S39} (h : Kd.C k39 w A n xs) (i : Int) (h0 : 0 ≤ i) (h1 : i < n) : ∃ ad , A = some ad ∧ w.cell? (ad.add (i.toNat * 5)) = some (.string (rd_T39 xs i).f0) ∧ w.cell? ⟨(ad.add (i.toNat * 5)).block, (ad.add (i.toNat * 5)).off + 1, none⟩ = some (.int .i64 (rd_T39 xs i).f1) ∧ w.cell? ⟨(ad.add (i.toNat * 5)).block, (ad.add (i.toNat * 5)).off + 2, none⟩ = some (.int .i64 (rd_T39 xs i).f2) ∧ w.cell? ⟨(ad.add (i.toNat * 5)).block, (ad.add (i.toNat * 5)).off + 3, none⟩ = some (.int .i64 (rd_T39 xs i).f3) ∧ w.cell? ⟨(ad.add (i.toNat * 5)).block, (ad.add (i.toNat * 5)).off + 4, none⟩ = some (.string (rd_T39 xs i).f4) := by
  obtain ⟨ad, c, e, _, hK, hc0⟩ := Kd.C_get h z39 i h0 h1
  have hc : ∀ j u, c[j]? = some u → w.cell? (ad.add (i.toNat * 5 + j)) = some u := hc0
  obtain rfl := k39_open hK
  exact ⟨ad, e, hc 0 _ rfl, by rw [← add_field _ _ 1 (by omega)]; exact hc 1 _ rfl, by rw [← add_field _ _ 2 (by omega)]; exact hc 2 _ rfl, by rw [← add_field _ _ 3 (by omega)]; exact hc 3 _ rfl, by rw [← add_field _ _ 4 (by omega)]; exact hc 4 _ rfl⟩

/-! #### struct type 32 -/
structure S32 where
  f0 : ByteArray
  f1 : Int
  f2 : Int
  f3 : Int
  f4 : (List ByteArray)
def z32 : S32 := ⟨(⟨#[]⟩ : ByteArray), (0 : Int), (0 : Int), (0 : Int), ([] : List ByteArray)⟩
def k32 : Kd S32 := Kd.iso (Kd.pair Kd.string (Kd.pair (Kd.int .i64) (Kd.pair (Kd.int .i64) (Kd.pair (Kd.int .i64) (Kd.slice 9 Kd.string))))) (fun x : S32 => (x.f0, x.f1, x.f2, x.f3, x.f4))
theorem k32_open {w : World} {x : S32} {cs : List Value} (h : k32.K w x cs) : ∃ A4 c4, cs = [.string x.f0, .int .i64 x.f1, .int .i64 x.f2, .int .i64 x.f3, .slice A4 x.f4.length c4] ∧ x.f4.length ≤ c4 ∧ Kd.string.C w A4 x.f4.length x.f4 := by
  obtain ⟨_, _, rfl, rfl, ⟨_, _, rfl, rfl, ⟨_, _, rfl, rfl, ⟨_, _, rfl, rfl, ⟨A4, c4, rfl, l4, g4⟩⟩⟩⟩⟩ := h
  exact ⟨A4, c4, rfl, l4, g4⟩
theorem k32_openM {w : World} {base : Nat} {ok : Nat → Prop} {x : S32} {cs : List Value} (h : k32.M w base ok x cs) : ∃ v4, cs = [.string x.f0, .int .i64 x.f1, .int .i64 x.f2, .int .i64 x.f3, v4] ∧ Kd.string.R 9 w base ok v4 x.f4 := by
  obtain ⟨_, _, rfl, rfl, ⟨_, _, rfl, rfl, ⟨_, _, rfl, rfl, ⟨_, _, rfl, rfl, ⟨v4, rfl, g4⟩⟩⟩⟩⟩ := h
  exact ⟨v4, rfl, g4⟩
theorem k32_mkM (w : World) (base : Nat) (ok : Nat → Prop) (x : S32) {v4 : Value} (g4 : Kd.string.R 9 w base ok v4 x.f4) : k32.M w base ok x [.string x.f0, .int .i64 x.f1, .int .i64 x.f2, .int .i64 x.f3, v4] := ⟨[.string x.f0], [.int .i64 x.f1, .int .i64 x.f2, .int .i64 x.f3, v4], rfl, rfl, ⟨[.int .i64 x.f1], [.int .i64 x.f2, .int .i64 x.f3, v4], rfl, rfl, ⟨[.int .i64 x.f2], [.int .i64 x.f3, v4], rfl, rfl, ⟨[.int .i64 x.f3], [v4], rfl, rfl, ⟨v4, rfl, g4⟩⟩⟩⟩⟩
def rd_T32 (xs : List S32) (i : Int) : S32 := xs.getD i.toNat z32
theorem at_T32 {w : World} {A : Option Addr} {n : Nat} {xs : List S32} (h : Kd.C k32 w A n xs) (i : Int) (h0 : 0 ≤ i) (h1 : i < n) : ∃ ad A4 c4, A = some ad ∧ w.cell? (ad.add (i.toNat * 5)) = some (.string (rd_T32 xs i).f0) ∧ w.cell? ⟨(ad.add (i.toNat * 5)).block, (ad.add (i.toNat * 5)).off + 1, none⟩ = some (.int .i64 (rd_T32 xs i).f1) ∧ w.cell? ⟨(ad.add (i.toNat * 5)).block, (ad.add (i.toNat * 5)).off + 2, none⟩ = some (.int .i64 (rd_T32 xs i).f2) ∧ w.cell? ⟨(ad.add (i.toNat * 5)).block, (ad.add (i.toNat * 5)).off + 3, none⟩ = some (.int .i64 (rd_T32 xs i).f3) ∧ w.cell? ⟨(ad.add (i.toNat * 5)).block, (ad.add (i.toNat * 5)).off + 4, none⟩ = some (.slice A4 (rd_T32 xs i).f4.length c4) ∧ (rd_T32 xs i).f4.length ≤ c4 ∧ Kd.string.C w A4 (rd_T32 xs i).f4.length (rd_T32 xs i).f4 := by
  obtain ⟨ad, c, e, _, hK, hc0⟩ := Kd.C_get h z32 i h0 h1
  have hc : ∀ j u, c[j]? = some u → w.cell? (ad.add (i.toNat * 5 + j)) = some u := hc0
  obtain ⟨A4, c4, rfl, l4, g4⟩ := k32_open hK
  exact ⟨ad, A4, c4, e, hc 0 _ rfl, by rw [← add_field _ _ 1 (by omega)]; exact hc 1 _ rfl, by rw [← add_field _ _ 2 (by omega)]; exact hc 2 _ rfl, by rw [← add_field _ _ 3 (by omega)]; exact hc 3 _ rfl, by rw [← add_field _ _ 4 (by omega)]; exact hc 4 _ rfl, l4, g4⟩

/-! #### struct type 52 -/

/-! #### struct type 55 -/

/-! #### struct type 63 -/

end Go.Proofs.Ytdkecfjeiookdaa.PA
/- What a row hands in, read as the walks read it: a law of the kinds, by the type's shape. -/
namespace Go.Proofs.Ytdkecfjeiookdaa.Ro
open Go.RowKit Go.ChangeShapes Go.WideShapes Go.Deep Go.Proofs.Ytdkecfjeiookdaa.PA Go.Proofs.YtdkecfjeiookdaaW.PrintWords
set_option linter.unusedVariables false

/-- What is read at type t is of kind d, and Q is true of it. -/
def Opens {α : Type} (P : Program) (t : TypeId) (d : Kd α) (Q : α → Prop) : Prop :=
  ∀ (H : Type) (enc : TypeId × Value → H) (w : World) (base : Nat) (spare : Nat → Bool) (held : Bool) (fuel : Nat) (cs : List Value) (x : DataW H × List MemPlace), DataW.trod enc P w base spare held fuel t cs = some x → (∀ n ∈ x.1.weights P t, n ≤ reachBytes) → ∃ a, d.K w a cs ∧ Q a

theorem opens_string {P : Program} {t : TypeId} (ht : P.underlying t = some .string) : Opens P t Kd.string (fun s => s.size ≤ reachBytes) := by
  intro H enc w base spare held fuel cs x h hw
  obtain ⟨s, rfl, rfl, _⟩ := DataW.trod_string ht h
  refine ⟨s, rfl, ?_⟩
  have := hw s.data.toList.length (by simp [DataW.weights])
  simpa using this

theorem opens_int {P : Program} {t : TypeId} {k : IntKind} (ht : P.underlying t = some (.int k)) : Opens P t (Kd.int k) (fun n => (Lit.int k n).wf = true) := by
  intro H enc w base spare held fuel cs x h hw
  obtain ⟨n, rfl, rfl, hwf⟩ := DataW.trod_int ht h
  exact ⟨n, rfl, hwf⟩

theorem opens_iso {α β : Type} {P : Program} {t : TypeId} {d : Kd α} {Q : α → Prop} (h : Opens P t d Q) (f : β → α) (g : α → β) (hg : ∀ a, f (g a) = a) : Opens P t (Kd.iso d f) (fun b => Q (f b)) := by
  intro H enc w base spare held fuel cs x hx hw
  obtain ⟨a, ha, hq⟩ := h H enc w base spare held fuel cs x hx hw
  exact ⟨g a, by show d.K w (f (g a)) cs; rw [hg]; exact ha, by show Q (f (g a)); rw [hg]; exact hq⟩

/-- The fields of a struct, from the one at off on. -/
def OpensF {α : Type} (P : Program) (fs : List Field) (off : Nat) (d : Kd α) (Q : α → Prop) : Prop :=
  ∀ (H : Type) (enc : TypeId × Value → H) (w : World) (base : Nat) (spare : Nat → Bool) (held : Bool) (n : Nat) (cs : List Value) (xs : List (DataW H × List MemPlace)),
    (∀ (i : Nat) (f : Field), fs[i]? = some f → DataW.trod enc P w base spare held n f.type ((cs.drop f.offset).take (P.cellsOf f.type)) = xs[i]?) → xs.length = fs.length → cs.length = off + d.sz →
    (∀ m ∈ DataW.weightsEach P (fs.map (·.type)) (xs.map (·.1)), m ≤ reachBytes) → ∃ a, d.K w a (cs.drop off) ∧ Q a

theorem opensF_one {α : Type} {P : Program} {f : Field} {off : Nat} {d : Kd α} {Q : α → Prop} (ho : f.offset = off) (hc : P.cellsOf f.type = d.sz) (h : Opens P f.type d Q) : OpensF P [f] off d Q := by
  intro H enc w base spare held n cs xs hx hl hcs hw
  match xs, hl with
  | [x], _ =>
    have h1 := hx 0 f rfl
    obtain ⟨a, ha, hq⟩ := h H enc w base spare held n _ x h1 (fun m hm => hw m (by simp [DataW.weightsEach, hm]))
    rw [List.take_of_length_le (by rw [List.length_drop, hc, ho]; omega), ho] at ha
    exact ⟨a, ha, hq⟩

theorem opensF_cons {α β : Type} {P : Program} {f : Field} {fs : List Field} {off : Nat} {a : Kd α} {b : Kd β} {Qa : α → Prop} {Qb : β → Prop} (ho : f.offset = off) (hc : P.cellsOf f.type = a.sz) (h : Opens P f.type a Qa) {off2 : Nat} (h2 : off2 = off + a.sz) (hf : OpensF P fs off2 b Qb) :
    OpensF P (f :: fs) off (Kd.pair a b) (fun p => Qa p.1 ∧ Qb p.2) := by
  intro H enc w base spare held n cs xs hx hl hcs hw
  subst h2
  match xs, hl with
  | x :: xs, hl =>
    have h1 := hx 0 f rfl
    obtain ⟨y, hy, hq⟩ := h H enc w base spare held n _ x h1 (fun m hm => hw m (by simp [DataW.weightsEach, hm]))
    obtain ⟨z, hz, hqz⟩ := hf H enc w base spare held n cs xs (fun i g hg => hx (i + 1) g hg) (by simpa using hl) (by rw [hcs]; show off + (a.sz + b.sz) = _; omega) (fun m hm => hw m (by simp only [DataW.weightsEach, List.map_cons, List.mem_append]; exact Or.inr hm))
    refine ⟨(y, z), ⟨_, _, ?_, hy, hz⟩, hq, hqz⟩
    rw [ho, hc]
    exact (List.take_append_drop a.sz (cs.drop off)).symm.trans (by rw [List.drop_drop])

theorem opens_struct {α : Type} {P : Program} {t : TypeId} {fs : Array Field} {d : Kd α} {Q : α → Prop} (ht : P.underlying t = some (.struct fs)) (hc : P.cellsOf t = d.sz) (h : OpensF P fs.toList 0 d Q) : Opens P t d Q := by
  intro H enc w base spare held fuel cs x hx hw
  obtain ⟨xs, n, rfl, rfl, hcl, hxl, hel⟩ := DataW.trod_struct ht hx
  obtain ⟨a, ha, hq⟩ := h H enc w base spare held n cs xs (fun i f hf => hel i f (by simpa using hf)) (by simpa using hxl) (by omega) (fun m hm => hw m (by simp only [DataW.weights, ht]; exact hm))
  exact ⟨a, ha, hq⟩

theorem weights_all {H : Type} {P : Program} {e : TypeId} : ∀ {l : List (DataW H)} {y : DataW H}, y ∈ l → ∀ n ∈ y.weights P e, n ∈ DataW.weightsAll P e l
  | z :: l, y, hy, n, hn => by
    simp only [DataW.weightsAll, List.mem_append]
    rcases List.mem_cons.1 hy with rfl | hy
    · exact Or.inl hn
    · exact Or.inr (weights_all hy n hn)

theorem opens_slice {α : Type} {P : Program} {t e : TypeId} {d : Kd α} {Q : α → Prop} (ht : P.underlying t = some (.slice e)) (hc : P.cellsOf e = d.sz) (he : Opens P e d Q) :
    Opens P t (Kd.slice e d) (fun xs => (∀ x ∈ xs, Q x) ∧ xs.length * P.bytesOf e ≤ reachBytes) := by
  intro H enc w base spare held fuel cs x h hw
  rcases open_slice ht h with ⟨rfl, rfl⟩ | ⟨a, len, cap, m, n, D, Pl, rfl, hb, hl, hm, hme, rfl, hel⟩
  · exact ⟨[], ⟨none, 0, rfl, Nat.le_refl _, rfl, by simp, fun h => absurd h (by simp)⟩, by simp, by simp⟩
  · have hlm : len ≤ m := by rw [hme]; split <;> omega
    have key : ∀ i, i < len → ∃ y : α, (∃ cs', w.cells? base (a.add (i * P.cellsOf e)) (P.cellsOf e) = some cs' ∧ d.K w y cs') ∧ Q y := by
      intro i hi
      obtain ⟨cs', h1, h2⟩ := hel i (by omega)
      obtain ⟨y, hy, hq⟩ := he H enc w base spare held n cs' _ h2 (fun q hq => hw q (by
        simp only [DataW.weights, ht, List.mem_cons, List.mem_append]
        exact Or.inr (Or.inl (weights_all (List.mem_map.2 ⟨i, List.mem_range.2 hi, rfl⟩) q hq))))
      exact ⟨y, ⟨cs', h1, hy⟩, hq⟩
    have hall : ∃ xs : List α, xs.length = len ∧ ∀ j y, xs[j]? = some y → (∃ cs', w.cells? base (a.add (j * P.cellsOf e)) (P.cellsOf e) = some cs' ∧ d.K w y cs') ∧ Q y := by
      clear hw h hel
      revert key
      generalize len = L at *
      intro key
      clear hl hme hlm
      induction L with
      | zero => exact ⟨[], rfl, by simp⟩
      | succ L ih =>
        obtain ⟨xs, hx, hp⟩ := ih (fun i hi => key i (by omega))
        obtain ⟨y, hy⟩ := key L (by omega)
        refine ⟨xs ++ [y], by simp [hx], fun j z hz => ?_⟩
        rcases Nat.lt_or_ge j xs.length with hj | hj
        · rw [List.getElem?_append_left hj] at hz
          exact hp j z hz
        · rw [List.getElem?_append_right hj] at hz
          have hj0 : j - xs.length = 0 := by
            rcases Nat.eq_zero_or_pos (j - xs.length) with h0 | h0
            · exact h0
            · rw [List.getElem?_eq_none (by simp; omega)] at hz; cases hz
          rw [hj0] at hz
          cases hz
          obtain rfl : j = L := by omega
          exact hy
    obtain ⟨xs, rfl, hp⟩ := hall
    refine ⟨xs, ⟨some a, cap, rfl, hl, rfl, by have : maxLen = 9223372036854775807 := by decide
                                               omega, fun _ => ⟨a, rfl, fun j y hy => ?_⟩⟩, fun y hy => ?_, ?_⟩
    · obtain ⟨⟨cs', h1, h2⟩, _⟩ := hp j y hy
      refine ⟨cs', d.K_len h2, h2, fun i u hu => ?_⟩
      rw [← hc]
      have hlt : i < cs'.length := (List.getElem?_eq_some_iff.1 hu).1
      obtain ⟨_, hl2, hcell⟩ := World.cells?_some h1
      have := hcell i (by omega)
      rw [hu] at this
      rw [← this]
      congr 1
      exact (Addr.add_add a _ _).symm
    · obtain ⟨j, hj, rfl⟩ := List.getElem_of_mem hy
      exact (hp j _ (List.getElem?_eq_getElem hj)).2
    · have := hw ((xs.length + (m - xs.length)) * P.bytesOf e) (by simp only [DataW.weights, ht, List.mem_cons, List.length_map, List.length_range]; exact Or.inl trivial)
      exact Nat.le_trans (Nat.mul_le_mul_right _ (by omega)) this

/-- A record. -/
def OkRec (r : S39) : Prop := r.f0.size ≤ reachBytes ∧ (Lit.int .i64 r.f1).wf = true ∧ (Lit.int .i64 r.f2).wf = true ∧ (Lit.int .i64 r.f3).wf = true ∧ r.f4.size ≤ reachBytes
theorem opens_mono {α : Type} {P : Program} {t : TypeId} {d : Kd α} {Q Q' : α → Prop} (h : Opens P t d Q) (hq : ∀ a, Q a → Q' a) : Opens P t d Q' := by
  intro H enc w base spare held fuel cs x hx hw
  obtain ⟨a, ha, hqa⟩ := h H enc w base spare held fuel cs x hx hw
  exact ⟨a, ha, hq a hqa⟩
theorem opens_rec : Opens Try.prog 39 k39 OkRec :=
  opens_mono (opens_iso (opens_struct Try.underlying39 (by kernel_rfl)
    (opensF_cons rfl (by kernel_rfl) (opens_string Try.underlying9) rfl (opensF_cons rfl (by kernel_rfl) (opens_int Try.underlying3) rfl (opensF_cons rfl (by kernel_rfl) (opens_int Try.underlying3) rfl (opensF_cons rfl (by kernel_rfl) (opens_int Try.underlying3) rfl (opensF_one rfl (by kernel_rfl) (opens_string Try.underlying9)))))))
    (fun x : S39 => (x.f0, x.f1, x.f2, x.f3, x.f4)) (fun p => ⟨p.1, p.2.1, p.2.2.1, p.2.2.2.1, p.2.2.2.2⟩) (fun _ => rfl)) (fun a h => h)
theorem opens_recs : Opens Try.prog 22 (Kd.slice 39 k39) (fun l => (∀ r ∈ l, OkRec r) ∧ l.length * 56 ≤ reachBytes) :=
  opens_mono (opens_slice Try.underlying22 (by kernel_rfl) opens_rec) (fun l h => ⟨h.1, by have := h.2; rwa [show Try.prog.bytesOf 39 = 56 from by kernel_rfl] at this⟩)

/-- A slice that a row hands in. -/
theorem open_row_slice {α : Type} {d : Kd α} {Q : List α → Prop} {P : Program} {t e : TypeId} (ht : P.underlying t = some (.slice e)) (ho : Opens P t (Kd.slice e d) Q) {H : Type} {enc : TypeId × Value → H} {W : World} {spare : Nat → Bool} {held : Bool} {base : Nat} {v : Value} {D : DataW H} {p : List MemPlace} (hv : Value.okWide P W .any base t v)
    (h : DataW.Trod enc P W 0 spare held t v D p) (hw : ∀ n ∈ D.weights P t, n ≤ reachBytes) : ∃ (A : Option Addr) (l : List α) (c : Nat), v = .slice A l.length c ∧ l.length ≤ c ∧ Kd.C d W A l.length l ∧ Q l := by
  obtain ⟨fuel, hf⟩ := h
  obtain ⟨a, len, cap, rfl⟩ := okWide_slice ht hv
  obtain ⟨l, ⟨A, c, he, hc, hr⟩, hq⟩ := ho H enc W 0 spare held fuel _ _ hf hw
  simp only [Value.cells, List.cons.injEq, and_true] at he
  exact ⟨A, l, c, he, hc, hr, hq⟩
/-- What a row's weights say of one argument. -/
theorem sized_arg {H : Type} {P : Program} {ts : List TypeId} {ds : List (DataW H)} (h : (DataW.weightsEach P ts ds).all (· ≤ reachBytes) = true) {j : Nat} {t : TypeId} {d : DataW H} (ht : ts[j]? = some t) (hd : ds[j]? = some d) : ∀ n ∈ d.weights P t, n ≤ reachBytes := fun n hn => by
  have := List.all_eq_true.1 h n (DataW.weights_mem_each ht hd n hn)
  simpa using this
end Go.Proofs.Ytdkecfjeiookdaa.Ro
/- Maps whose keys are read as keys, and whose elements are whatever they are: the words for them. -/
namespace Go.Proofs.Ytdkecfjeiookdaa.Mp
open Go.RowKit Go.Maps

/-- Any element reads, as itself. -/
def heldR (v : Value) : Option (DataW Value × List MemPlace) := some (.held v, [])

/-- Block b is a map of at most n entries: at the key that enc a is stands what f says. -/
def MapT {α β : Type} (P : Program) (k : TypeId) (enc : α → Value) (encv : β → Value) (W : World) (b n : Nat) (f : α → Option β) : Prop :=
  ∃ D : DataW Value, W.ownsMap P k heldR b n D ∧ ∀ a l, keyOf P k (enc a) = some l → Maps.has D l = (f a).isSome ∧ ∀ v, f a = some v → ∀ z, D.atKey l z = .held (encv v)

section
variable {α β : Type} {P : Program} {k : TypeId} {enc : α → Value} {encv : β → Value} {W W1 : World} {b n : Nat} {f f' : α → Option β}

theorem atKey_of_not_has {D : DataW Value} {l : Lit} (h : Maps.has D l = false) (z : DataW Value) (hD : IsMap D) : D.atKey l z = z := by
  obtain ⟨es, rfl⟩ := hD
  have hn : es.find? (fun p => p.1.sameKey l) = none := by
    rw [List.find?_eq_none]
    intro p hp hc
    have : es.any (fun p => p.1.sameKey l) = true := List.any_eq_true.2 ⟨p, hp, hc⟩
    have h' : es.any (fun p => p.1.sameKey l) = false := h
    rw [this] at h'
    cases h'
  unfold DataW.atKey
  simp only [hn]

theorem MapT.made (w : World) (P : Program) (k : TypeId) (enc : α → Value) (encv : β → Value) : MapT P k enc encv (w.alloc (.map #[] 0)) w.heap.size 0 (fun _ => none) :=
  ⟨.map [], World.ownsMap_made w P k heldR, fun _ _ _ => ⟨rfl, fun _ h => by cases h⟩⟩
theorem MapT.lt (h : MapT P k enc encv W b n f) : b < W.heap.size := by obtain ⟨D, hD, _⟩ := h; exact hD.lt
theorem MapT.isMap (h : MapT P k enc encv W b n f) : ∃ es c, W.heap[b]? = some (.map es c) := by
  obtain ⟨D, ⟨es, c, hb, _⟩, _⟩ := h
  exact ⟨es, c, hb⟩
theorem MapT.kept {row : Option Nat} (h : MapT P k enc encv W b n f) (hg : W.grownBy W1 row) (hne : some b ≠ row) : MapT P k enc encv W1 b n f := by
  obtain ⟨D, hD, r⟩ := h
  exact ⟨D, hD.kept hg hne, r⟩
theorem MapT.below (h : MapT P k enc encv W b n f) (hB : Below W.heap.size W W1) : MapT P k enc encv W1 b n f :=
  h.kept (row := none) ⟨hB.os, hB.tape, hB.output, hB.size, fun i hi _ => hB.block i hi⟩ (by simp)
theorem MapT.alloc (h : MapT P k enc encv W b n f) (o : Obj) : MapT P k enc encv (W.alloc o) b n f := h.kept (World.grownBy_alloc W o none) (by simp)
theorem MapT.drewN (h : MapT P k enc encv W b n f) (m : Nat) : MapT P k enc encv (W.drewN m) b n f := h
theorem MapT.setCell (h : MapT P k enc encv W b n f) {a : Addr} (ha : b ≠ a.block) (u : Value) : MapT P k enc encv (W.setCell a u) b n f := by
  obtain ⟨D, hD, r⟩ := h
  exact ⟨D, hD.setCell ha u, r⟩
/-- A map's block is no row's. -/
theorem MapT.ne_cells (h : MapT P k enc encv W b n f) {g : Nat} {cs : Array Value} {t : TypeId} {fr : Nat × Nat} (hg : W.heap[g]? = some (.cells cs t fr)) : b ≠ g := by
  obtain ⟨es, c, hb⟩ := h.isMap
  rintro rfl
  rw [hb] at hg
  cases hg
theorem MapT.mono (h : MapT P k enc encv W b n f) {n' : Nat} (hn : n ≤ n') : MapT P k enc encv W b n' f := by
  obtain ⟨D, hD, r⟩ := h
  exact ⟨D, hD.mono hn, r⟩
theorem MapT.says (h : MapT P k enc encv W b n f) (hf : ∀ a, (keyOf P k (enc a)).isSome = true → f' a = f a) : MapT P k enc encv W b n f' := by
  obtain ⟨D, hD, r⟩ := h
  refine ⟨D, hD, fun a l hl => ?_⟩
  rw [hf a (by rw [hl]; rfl)]
  exact r a l hl

/-- 'v, ok := m[k]' -/
theorem MapT.look (h : MapT P k enc encv W b n f) (K : Keyed P k) {t e : TypeId} (ht : P.underlying t = some (.map k e)) {z : Value} (hz : (zeroValue e).run P W = .ok z W) {a : α} (ha : (keyOf P k (enc a)).isSome = true) :
    (Instr.lookup t (.map (some b)) (enc a) true).run P W = .ok (.tuple #[(match f a with | some v => encv v | none => z), .bool (f a).isSome]) W := by
  obtain ⟨l, hl⟩ := Option.isSome_iff_exists.1 ha
  obtain ⟨D, hD, r⟩ := h
  obtain ⟨v, ps, hrun, hv⟩ := hD.look_ok K ht hz (zd := .held z) (zp := []) rfl hl
  obtain ⟨h1, h2⟩ := r a l hl
  rw [hrun, h1]
  have hv' : DataW.held v = D.atKey l (.held z) := by
    have := congrArg (·.map Prod.fst) hv
    simpa [heldR] using this
  cases hf : f a with
  | some x =>
    rw [h2 x hf] at hv'
    injection hv' with hv'
    rw [hv']
  | none =>
    rw [hf] at h1
    rw [atKey_of_not_has h1 _ hD.isMap] at hv'
    injection hv' with hv'
    rw [hv']

/-- 'm[k] = v' -/
theorem MapT.store (h : MapT P k enc encv W b n f) (K : Keyed P k) {t e : TypeId} (ht : P.underlying t = some (.map k e)) (hn : n < maxLen) {a : α} (ha : (keyOf P k (enc a)).isSome = true) (v : β)
    (hs : f' a = some v) (ho : ∀ a', enc a' ≠ enc a → f' a' = f a') (hi : ∀ a', enc a' = enc a → f' a' = f' a) :
    ∃ W', (Instr.mapUpdate t (.map (some b)) (enc a) (encv v)).run P W = .ok () W' ∧ MapT P k enc encv W' b (n + 1) f' ∧ W.mapTurned W' b := by
  obtain ⟨l, hl⟩ := Option.isSome_iff_exists.1 ha
  obtain ⟨D, hD, r⟩ := h
  obtain ⟨W', hrun, hD', ht'⟩ := hD.store K ht hn hl (val := encv v) (d := .held (encv v)) (ps := []) rfl
  refine ⟨W', hrun, ⟨_, hD', fun a' l' hl' => ?_⟩, ht'⟩
  by_cases e : l' = l
  · subst e
    have ee := K.inj hl' hl
    rw [hi a' ee, hs]
    exact ⟨has_put_same hD.isMap (K.key hl) _, fun x hx z => by cases hx; exact atKey_put_same hD.isMap (K.key hl) _ z⟩
  · have en : enc a' ≠ enc a := fun h => e (by rw [h] at hl'; exact Option.some.inj (hl'.symm.trans hl))
    rw [ho a' en, has_put_other e]
    refine ⟨(r a' l' hl').1, fun x hx z => ?_⟩
    rw [atKey_put_other e]
    exact (r a' l' hl').2 x hx z
end

section
variable {α β : Type} {P : Program} {k : TypeId} {enc : α → Value} {encv : β → Value} {b n : Nat} {f : α → Option β}
variable {ops : Array Oper} {rest : List Oper} {o : Oper} {a : Act} {Q : Exit → Act → World → Prop}
theorem wpList_look (W : World) (hg : o.guard = none) (m x : Operand) (t : TypeId) (hop : o.op = Op.lookup t m x true) (h : MapT P k enc encv W b n f) (K : Keyed P k) {e : TypeId} (ht : P.underlying t = some (.map k e)) {z : Value} (hz : (zeroValue e).run P W = .ok z W)
    (hm : a.eval m = .map (some b)) (key : α) (hx : a.eval x = enc key) (ha : (keyOf P k (enc key)).isSome = true)
    (hK : wpList P ops Q rest (a.put o.dst (.tuple #[(match f key with | some v => encv v | none => z), .bool (f key).isSome])) W) : wpList P ops Q (o :: rest) a W := by
  refine wpList_plain hg fun K' hK' => ?_
  have hrun := h.look K ht hz ha
  unfold Oper.wp
  simp [execOp, hop, hm, hx, hrun, Result.andThen]
  exact hK' _ _ hK
theorem wpList_store (W : World) (hg : o.guard = none) (m x v : Operand) (t : TypeId) (hop : o.op = Op.mapUpdate t m x v) (h : MapT P k enc encv W b n f) (K : Keyed P k) {e : TypeId} (ht : P.underlying t = some (.map k e)) (hn : n < maxLen)
    (hm : a.eval m = .map (some b)) (key : α) (hx : a.eval x = enc key) (ha : (keyOf P k (enc key)).isSome = true) (val : β) (hv : a.eval v = encv val) (f' : α → Option β)
    (hs : f' key = some val) (ho : ∀ a', enc a' ≠ enc key → f' a' = f a') (hi : ∀ a', enc a' = enc key → f' a' = f' key)
    (hK : ∀ W', MapT P k enc encv W' b (n + 1) f' → W.mapTurned W' b → wpList P ops Q rest (a.put o.dst undef) W') : wpList P ops Q (o :: rest) a W := by
  refine wpList_plain hg fun K' hK' => ?_
  obtain ⟨W', hrun, h1, h2⟩ := h.store K ht hn ha val hs ho hi
  unfold Oper.wp
  simp [execOp, hop, hm, hx, hv, hrun, Result.andThen]
  exact hK' _ _ (hK W' h1 h2)
end
#print axioms wpList_store
end Go.Proofs.Ytdkecfjeiookdaa.Mp
/- Contracts by hand: the lower-case forms of names. -/
namespace Go.Proofs.Ytdkecfjeiookdaa.PA
open Go.RowKit Go.Proofs.YtdkecfjeiookdaaW.PrintWords Go.Proofs.YtdkecfjeiookdaaW.PrintLast Go.Proofs.YtdkecfjeiookdaaW.PrintMore
set_option linter.unusedVariables false
set_option linter.unusedSimpArgs false

/-- One byte, lower. -/
def lowB (c : UInt8) : UInt8 := if 65 ≤ c ∧ c ≤ 90 then c + 32 else c
def lowS (s : ByteArray) : ByteArray := ⟨(s.data.toList.map lowB).toArray⟩
/-- The cells behind k rounds. -/
def lowTo (s : ByteArray) (k : Nat) : List Int := ((s.data.toList.take k).map fun c => ((lowB c).toNat : Int)) ++ ((s.data.toList.drop k).map fun c => (c.toNat : Int))

theorem lowTo_zero (s : ByteArray) (j : Nat) (h : j < s.size) : (lowTo s 0).getD j 0 = ((s.data.toList.getD j 0).toNat : Int) := by
  have h' : j < s.data.toList.length := by rw [data_length]; exact h
  simp [lowTo, List.getD_eq_getElem?_getD, List.getElem?_eq_getElem h']
theorem lowTo_length (s : ByteArray) (k : Nat) : (lowTo s k).length = s.size := by
  rw [lowTo, List.length_append, List.length_map, List.length_map, ← List.length_append, List.take_append_drop, data_length]
theorem lowTo_at (s : ByteArray) (k : Nat) (h : k < s.size) : (lowTo s k).getD k 0 = ((s.data.toList.getD k 0).toNat : Int) := by
  have h' : k < s.data.toList.length := by rw [data_length]; exact h
  simp only [lowTo, List.getD_eq_getElem?_getD]
  rw [List.getElem?_append_right (by rw [List.length_map, List.length_take]; omega)]
  rw [List.length_map, List.length_take, Nat.min_eq_left (Nat.le_of_lt h'), Nat.sub_self, List.getElem?_map, List.getElem?_drop, Nat.add_zero, List.getElem?_eq_getElem h']
  rfl
theorem lowTo_succ (s : ByteArray) (k : Nat) (h : k < s.size) (j : Nat) : (lowTo s (k + 1)).getD j 0 = if j = k then ((lowB (s.data.toList.getD k 0)).toNat : Int) else (lowTo s k).getD j 0 := by
  have h' : k < s.data.toList.length := by rw [data_length]; exact h
  simp only [lowTo, List.getD_eq_getElem?_getD]
  by_cases hj : j = k
  · subst hj
    rw [if_pos rfl, List.getElem?_append_left (by simp; omega)]
    simp [List.getElem?_take, List.getElem?_eq_getElem h']
  · rw [if_neg hj]
    by_cases hl : j < k
    · rw [List.getElem?_append_left (by simp; omega), List.getElem?_append_left (by simp; omega)]
      simp [List.getElem?_take, hl, Nat.lt_succ_of_lt hl]
    · rw [List.getElem?_append_right (by simp; omega), List.getElem?_append_right (by simp; omega)]
      simp only [List.length_map, List.length_take, List.getElem?_map, List.getElem?_drop]
      rw [show min (k + 1) s.data.toList.length = k + 1 from by omega, show min k s.data.toList.length = k from by omega, show k + 1 + (j - (k + 1)) = k + (j - k) from by omega]
theorem lowTo_all (s : ByteArray) : strOfNums (lowTo s s.size) = lowS s := by
  have h1 : s.data.toList.take s.size = s.data.toList := List.take_of_length_le (by rw [data_length]; omega)
  have h2 : s.data.toList.drop s.size = [] := List.drop_of_length_le (by rw [data_length]; omega)
  simp only [lowTo, h1, h2, List.map_nil, List.append_nil, strOfNums, lowS, List.map_map]
  congr 2
  apply List.map_congr_left
  intro c _
  simp
theorem low_hi (c : UInt8) (h1 : (65 : Int) ≤ (c.toNat : Int)) (h2 : (c.toNat : Int) ≤ 90) : ((lowB c).toNat : Int) = (c.toNat : Int) + 32 := by
  unfold lowB
  rw [if_pos ⟨by rw [UInt8.le_iff_toNat_le]; simp; omega, by rw [UInt8.le_iff_toNat_le]; simp; omega⟩]
  rw [UInt8.toNat_add]
  simp
  omega
theorem low_lo (c : UInt8) (h : ¬ ((65 : Int) ≤ (c.toNat : Int) ∧ (c.toNat : Int) ≤ 90)) : ((lowB c).toNat : Int) = (c.toNat : Int) := by
  unfold lowB
  rw [if_neg]
  rintro ⟨h1, h2⟩
  rw [UInt8.le_iff_toNat_le] at h1 h2
  simp at h1 h2
  exact h ⟨by omega, by omega⟩
/-- The row behind k rounds. -/
def LowRow (W : World) (g e : Nat) (s : ByteArray) (k : Nat) : Prop := ∃ cs fr, W.heap[g]? = some (.cells cs e fr) ∧ s.size ≤ fr.1 ∧ ∀ j, j < s.size → cs[j]? = some (.int .u8 ((lowTo s k).getD j 0))
theorem LowRow.start (w : World) (e : Nat) (s : ByteArray) : LowRow (Lib.bytesWorld w e s) w.heap.size e s 0 := by
  refine ⟨_, _, Lib.bytesWorld_at_new w e s, by simp [Lib.bytesCells], fun j hj => ?_⟩
  rw [lowTo_zero s j hj]
  simp [Lib.bytesCells, Array.getElem?_append, List.getD, hj]
theorem LowRow.cell {W : World} {g e : Nat} {s : ByteArray} {k : Nat} (h : LowRow W g e s k) (j : Nat) (hj : j < s.size) : W.cell? ⟨g, j, none⟩ = some (.int .u8 ((lowTo s k).getD j 0)) := by
  obtain ⟨cs, fr, hh, _, hc⟩ := h
  simp [World.cell?, hh, hc j hj]
theorem LowRow.free {W : World} {g e : Nat} {s : ByteArray} {k : Nat} (h : LowRow W g e s k) (j : Nat) (hj : j < s.size) : W.frozen? ⟨g, j, none⟩ = false := by
  obtain ⟨cs, fr, hh, hf, hc⟩ := h
  simp [World.frozen?, hh]
  omega
theorem LowRow.stay {W : World} {g e : Nat} {s : ByteArray} {k : Nat} (h : LowRow W g e s k) (hk : k < s.size) (hx : lowB (s.data.toList.getD k 0) = s.data.toList.getD k 0) : LowRow W g e s (k + 1) := by
  obtain ⟨cs, fr, hh, hf, hc⟩ := h
  refine ⟨cs, fr, hh, hf, fun j hj => ?_⟩
  rw [hc j hj, lowTo_succ s k hk j]
  by_cases e : j = k
  · subst e
    rw [if_pos rfl, hx, lowTo_at s j hj]
  · rw [if_neg e]
theorem LowRow.set {W : World} {g e : Nat} {s : ByteArray} {k : Nat} (h : LowRow W g e s k) (hk : k < s.size) (x : Int) (hx : x = ((lowB (s.data.toList.getD k 0)).toNat : Int)) : LowRow (W.setCell ⟨g, k, none⟩ (.int .u8 x)) g e s (k + 1) := by
  obtain ⟨cs, fr, hh, hf, hc⟩ := h
  obtain ⟨hlt, hh'⟩ := Array.getElem?_eq_some_iff.1 hh
  refine ⟨cs.setIfInBounds k (.int .u8 x), fr, ?_, hf, fun j hj => ?_⟩
  · show (W.heap.modify g _)[g]? = _
    rw [Array.getElem?_eq_getElem (by rw [Array.size_modify]; exact hlt), Array.getElem_modify_self, hh']
    rfl
  · rw [lowTo_succ s k hk j]
    by_cases e : j = k
    · subst e
      rw [if_pos rfl, hx]
      have hj' : j < cs.size := (Array.getElem?_eq_some_iff.1 (hc j hj)).1
      simp [Array.getElem?_setIfInBounds, hj']
    · rw [if_neg e, Array.getElem?_setIfInBounds_ne (fun h => e h.symm)]
      exact hc j hj

def name_Lower.f (a0 : ByteArray) : Option (ByteArray) := if a0.size ≤ 140737488355328 then some (lowS a0) else none

set_option maxHeartbeats 1000000 in
set_option maxRecDepth 100000 in
theorem name_Lower.calls (a0 : ByteArray) (r : ByteArray) (w : World) (h : name_Lower.f a0 = some r) :
    Calls Try.prog 63 #[.string a0] w fun e w' => e = .returned (.string r) ∧ Below w.heap.size w w' := by
  unfold name_Lower.f at h
  split at h
  case isFalse => cases h
  rename_i hs
  obtain rfl := Option.some.inj h
  clear h
  have kb := fun W => print_bytes (P := Try.prog) 9 76 5 Try.underlying9 Try.underlying76 Try.underlying5 a0 W
  go_enter Try.func63, Try.ntmps63
  go_wp2
  go_loopw [10] (fun i wr => ∃ k : Nat, i = .int .i64 k ∧ k ≤ a0.size ∧ Below w.heap.size w wr ∧ LowRow wr w.heap.size 5 a0 k) (fun i _ => a0.size - (intOf i).toNat)
  case atStart => exact ⟨0, rfl, Nat.zero_le _, bytes_below (Below.refl _ _) (Nat.le_refl _) _ _, LowRow.start w _ a0⟩
  case round =>
    obtain ⟨k, rfl, hk, hB, hR⟩ := hrel
    by_cases hlt : k < a0.size
    · have hc := hR.cell k hlt
      have hf := hR.free k hlt
      rw [lowTo_at a0 k hlt] at hc
      have hl : k < a0.data.toList.length := by rw [data_length]; exact hlt
      have hgd : a0.data.toList.getD k 0 = a0.data[k] := by simp [List.getD_eq_getElem?_getD, List.getElem?_eq_getElem hl]
      have HG := Lib.hid hgd
      clear hgd
      have hb255 : (a0.data[k].toNat : Int) ≤ 255 := by have := a0.data[k].toNat_lt; omega
      go_wp2
      · go_roundw
        case rel => exact ⟨k + 1, by go_num, by omega, hB.setCell (p := ⟨w.heap.size, k, none⟩) (Nat.le_refl _) _, hR.set hlt _ (by rw [HG.out, low_hi _ (by assumption) (by assumption)]; omega)⟩
        case measure => simp [intOf]; omega
      · go_roundw
        case rel => exact ⟨k + 1, by go_num, by omega, hB, hR.stay hlt (UInt8.toNat_inj.1 (Int.ofNat.inj (by have := low_lo (a0.data.toList.getD k 0) (by rw [HG.out]; omega); exact this)))⟩
        case measure => simp [intOf]; omega
      · go_roundw
        case rel => exact ⟨k + 1, by go_num, by omega, hB, hR.stay hlt (UInt8.toNat_inj.1 (Int.ofNat.inj (by have := low_lo (a0.data.toList.getD k 0) (by rw [HG.out]; omega); exact this)))⟩
        case measure => simp [intOf]; omega
    · obtain rfl : k = a0.size := by omega
      have ks := run_convert_bytes_arg (P := Try.prog) wr 76 5 Try.underlying76 Try.underlying5 w.heap.size 0 a0.size (grownCap w a0.size 0 5) (lowTo a0 a0.size) (lowTo_length _ _) (fun i hi => by rw [Nat.zero_add]; exact hR.cell i hi) 9 Try.underlying9
      rw [lowTo_all] at ks
      go_wp2
      go_ret
      exact ⟨rfl, hB⟩

def ostiaryref04_Lower.f (a0 : ByteArray) : Option (ByteArray) := if a0.size ≤ 140737488355328 then some (lowS a0) else none

set_option maxHeartbeats 1000000 in
set_option maxRecDepth 100000 in
theorem ostiaryref04_Lower.calls (a0 : ByteArray) (r : ByteArray) (w : World) (h : ostiaryref04_Lower.f a0 = some r) :
    Calls Try.prog 109 #[.string a0] w fun e w' => e = .returned (.string r) ∧ Below w.heap.size w w' := by
  unfold ostiaryref04_Lower.f at h
  split at h
  case isFalse => cases h
  rename_i hs
  obtain rfl := Option.some.inj h
  clear h
  have kb := fun W => print_bytes (P := Try.prog) 9 76 5 Try.underlying9 Try.underlying76 Try.underlying5 a0 W
  go_enter Try.func109, Try.ntmps109
  go_wp2
  go_loopw [4] (fun i wr => ∃ k : Nat, i = .int .i64 k ∧ k ≤ a0.size ∧ Below w.heap.size w wr ∧ LowRow wr w.heap.size 5 a0 k) (fun i _ => a0.size - (intOf i).toNat)
  case atStart => exact ⟨0, rfl, Nat.zero_le _, bytes_below (Below.refl _ _) (Nat.le_refl _) _ _, LowRow.start w _ a0⟩
  case round =>
    obtain ⟨k, rfl, hk, hB, hR⟩ := hrel
    by_cases hlt : k < a0.size
    · have hc := hR.cell k hlt
      have hf := hR.free k hlt
      rw [lowTo_at a0 k hlt] at hc
      have hl : k < a0.data.toList.length := by rw [data_length]; exact hlt
      have hgd : a0.data.toList.getD k 0 = a0.data[k] := by simp [List.getD_eq_getElem?_getD, List.getElem?_eq_getElem hl]
      have HG := Lib.hid hgd
      clear hgd
      have hb255 : (a0.data[k].toNat : Int) ≤ 255 := by have := a0.data[k].toNat_lt; omega
      go_wp2
      · go_roundw
        case rel => exact ⟨k + 1, by go_num, by omega, hB.setCell (p := ⟨w.heap.size, k, none⟩) (Nat.le_refl _) _, hR.set hlt _ (by rw [HG.out, low_hi _ (by assumption) (by assumption)])⟩
        case measure => simp [intOf]; omega
      · go_roundw
        case rel => exact ⟨k + 1, by go_num, by omega, hB, hR.stay hlt (UInt8.toNat_inj.1 (Int.ofNat.inj (by have := low_lo (a0.data.toList.getD k 0) (by rw [HG.out]; omega); exact this)))⟩
        case measure => simp [intOf]; omega
      · go_roundw
        case rel => exact ⟨k + 1, by go_num, by omega, hB, hR.stay hlt (UInt8.toNat_inj.1 (Int.ofNat.inj (by have := low_lo (a0.data.toList.getD k 0) (by rw [HG.out]; omega); exact this)))⟩
        case measure => simp [intOf]; omega
    · obtain rfl : k = a0.size := by omega
      have ks := run_convert_bytes_arg (P := Try.prog) wr 76 5 Try.underlying76 Try.underlying5 w.heap.size 0 a0.size (grownCap w a0.size 0 5) (lowTo a0 a0.size) (lowTo_length _ _) (fun i hi => by rw [Nat.zero_add]; exact hR.cell i hi) 9 Try.underlying9
      rw [lowTo_all] at ks
      go_wp2
      go_ret
      exact ⟨rfl, hB⟩
#print axioms ostiaryref04_Lower.calls
end Go.Proofs.Ytdkecfjeiookdaa.PA
