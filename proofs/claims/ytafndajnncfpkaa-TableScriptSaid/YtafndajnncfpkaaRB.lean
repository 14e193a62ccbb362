/- What a row hands in, read as the walks read it: a law of the kinds, by the type's shape (as seat a's RO); slices of calls. -/
import Derived.Test.YtafndajnncfpkaaTX
import Derived.ProofKit
import Derived.OpenShut
import Derived.ChangeArms
import Derived.Deep.Slices
import Derived.SizedLaws
namespace Go.Proofs.Ytafndajnncfpkaa.Ro
open Go Go.RowKit Go.ChangeShapes Go.WideShapes Go.Deep Go.Proofs.YtafndajnncfpkaaW.PrintWords Go.Proofs.Ytafndajnncfpkaa.Tm Go.Proofs.Ytafndajnncfpkaa.Tx
set_option linter.unusedVariables false

/-- What is read at type t is of kind d, and Q is true of it. -/
def Opens {α : Type} (P : Program) (t : TypeId) (d : Kd α) (Q : α → Prop) : Prop :=
  ∀ (H : Type) (enc : TypeId × Value → H) (w : World) (base : Nat) (spare : Nat → Bool) (held : Bool) (fuel : Nat) (cs : List Value) (x : DataW H × List MemPlace), DataW.trod enc P w base spare held fuel t cs = some x → (∀ n ∈ x.1.weights P t, n ≤ reachBytes) → ∃ a, d.K w a cs ∧ Q a

theorem opens_string {P : Program} {t : TypeId} (ht : P.underlying t = some .string) : Opens P t Kd.string (fun s => s.size ≤ reachBytes) := by
  intro H enc w base spare held fuel cs x h hw
  obtain ⟨s, rfl, rfl, _⟩ := DataW.trod_string ht h
  refine ⟨s, rfl, ?_⟩
  have := hw s.data.toList.length (by simp [DataW.weights])
  simpa using this

theorem opens_int {P : Program} {t : TypeId} {k : IntKind} (ht : P.underlying t = some (.int k)) : Opens P t (Kd.int k) (fun n => (Lit.int k n).wf = true) := by
  intro H enc w base spare held fuel cs x h hw
  obtain ⟨n, rfl, rfl, hwf⟩ := DataW.trod_int ht h
  exact ⟨n, rfl, hwf⟩

theorem opens_iso {α β : Type} {P : Program} {t : TypeId} {d : Kd α} {Q : α → Prop} (h : Opens P t d Q) (f : β → α) (g : α → β) (hg : ∀ a, f (g a) = a) : Opens P t (Kd.iso d f) (fun b => Q (f b)) := by
  intro H enc w base spare held fuel cs x hx hw
  obtain ⟨a, ha, hq⟩ := h H enc w base spare held fuel cs x hx hw
  exact ⟨g a, by show d.K w (f (g a)) cs; rw [hg]; exact ha, by show Q (f (g a)); rw [hg]; exact hq⟩

/-- The fields of a struct, from the one at off on. -/
def OpensF {α : Type} (P : Program) (fs : List Field) (off : Nat) (d : Kd α) (Q : α → Prop) : Prop :=
  ∀ (H : Type) (enc : TypeId × Value → H) (w : World) (base : Nat) (spare : Nat → Bool) (held : Bool) (n : Nat) (cs : List Value) (xs : List (DataW H × List MemPlace)),
    (∀ (i : Nat) (f : Field), fs[i]? = some f → DataW.trod enc P w base spare held n f.type ((cs.drop f.offset).take (P.cellsOf f.type)) = xs[i]?) → xs.length = fs.length → cs.length = off + d.sz →
    (∀ m ∈ DataW.weightsEach P (fs.map (·.type)) (xs.map (·.1)), m ≤ reachBytes) → ∃ a, d.K w a (cs.drop off) ∧ Q a

theorem opensF_one {α : Type} {P : Program} {f : Field} {off : Nat} {d : Kd α} {Q : α → Prop} (ho : f.offset = off) (hc : P.cellsOf f.type = d.sz) (h : Opens P f.type d Q) : OpensF P [f] off d Q := by
  intro H enc w base spare held n cs xs hx hl hcs hw
  match xs, hl with
  | [x], _ =>
    have h1 := hx 0 f rfl
    obtain ⟨a, ha, hq⟩ := h H enc w base spare held n _ x h1 (fun m hm => hw m (by simp [DataW.weightsEach, hm]))
    rw [List.take_of_length_le (by rw [List.length_drop, hc, ho]; omega), ho] at ha
    exact ⟨a, ha, hq⟩

theorem opensF_cons {α β : Type} {P : Program} {f : Field} {fs : List Field} {off : Nat} {a : Kd α} {b : Kd β} {Qa : α → Prop} {Qb : β → Prop} (ho : f.offset = off) (hc : P.cellsOf f.type = a.sz) (h : Opens P f.type a Qa) {off2 : Nat} (h2 : off2 = off + a.sz) (hf : OpensF P fs off2 b Qb) :
    OpensF P (f :: fs) off (Kd.pair a b) (fun p => Qa p.1 ∧ Qb p.2) := by
  intro H enc w base spare held n cs xs hx hl hcs hw
  subst h2
  match xs, hl with
  | x :: xs, hl =>
    have h1 := hx 0 f rfl
    obtain ⟨y, hy, hq⟩ := h H enc w base spare held n _ x h1 (fun m hm => hw m (by simp [DataW.weightsEach, hm]))
    obtain ⟨z, hz, hqz⟩ := hf H enc w base spare held n cs xs (fun i g hg => hx (i + 1) g hg) (by simpa using hl) (by rw [hcs]; show off + (a.sz + b.sz) = _; omega) (fun m hm => hw m (by simp only [DataW.weightsEach, List.map_cons, List.mem_append]; exact Or.inr hm))
    refine ⟨(y, z), ⟨_, _, ?_, hy, hz⟩, hq, hqz⟩
    rw [ho, hc]
    exact (List.take_append_drop a.sz (cs.drop off)).symm.trans (by rw [List.drop_drop])

theorem opens_struct {α : Type} {P : Program} {t : TypeId} {fs : Array Field} {d : Kd α} {Q : α → Prop} (ht : P.underlying t = some (.struct fs)) (hc : P.cellsOf t = d.sz) (h : OpensF P fs.toList 0 d Q) : Opens P t d Q := by
  intro H enc w base spare held fuel cs x hx hw
  obtain ⟨xs, n, rfl, rfl, hcl, hxl, hel⟩ := DataW.trod_struct ht hx
  obtain ⟨a, ha, hq⟩ := h H enc w base spare held n cs xs (fun i f hf => hel i f (by simpa using hf)) (by simpa using hxl) (by omega) (fun m hm => hw m (by simp only [DataW.weights, ht]; exact hm))
  exact ⟨a, ha, hq⟩

theorem weights_all {H : Type} {P : Program} {e : TypeId} : ∀ {l : List (DataW H)} {y : DataW H}, y ∈ l → ∀ n ∈ y.weights P e, n ∈ DataW.weightsAll P e l
  | z :: l, y, hy, n, hn => by
    simp only [DataW.weightsAll, List.mem_append]
    rcases List.mem_cons.1 hy with rfl | hy
    · exact Or.inl hn
    · exact Or.inr (weights_all hy n hn)

theorem opens_slice {α : Type} {P : Program} {t e : TypeId} {d : Kd α} {Q : α → Prop} (ht : P.underlying t = some (.slice e)) (hc : P.cellsOf e = d.sz) (he : Opens P e d Q) :
    Opens P t (Kd.slice e d) (fun xs => (∀ x ∈ xs, Q x) ∧ xs.length * P.bytesOf e ≤ reachBytes) := by
  intro H enc w base spare held fuel cs x h hw
  rcases open_slice ht h with ⟨rfl, rfl⟩ | ⟨a, len, cap, m, n, D, Pl, rfl, hb, hl, hm, hme, rfl, hel⟩
  · exact ⟨[], ⟨none, 0, rfl, Nat.le_refl _, rfl, by simp, fun h => absurd h (by simp)⟩, by simp, by simp⟩
  · have hlm : len ≤ m := by rw [hme]; split <;> omega
    have key : ∀ i, i < len → ∃ y : α, (∃ cs', w.cells? base (a.add (i * P.cellsOf e)) (P.cellsOf e) = some cs' ∧ d.K w y cs') ∧ Q y := by
      intro i hi
      obtain ⟨cs', h1, h2⟩ := hel i (by omega)
      obtain ⟨y, hy, hq⟩ := he H enc w base spare held n cs' _ h2 (fun q hq => hw q (by
        simp only [DataW.weights, ht, List.mem_cons, List.mem_append]
        exact Or.inr (Or.inl (weights_all (List.mem_map.2 ⟨i, List.mem_range.2 hi, rfl⟩) q hq))))
      exact ⟨y, ⟨cs', h1, hy⟩, hq⟩
    have hall : ∃ xs : List α, xs.length = len ∧ ∀ j y, xs[j]? = some y → (∃ cs', w.cells? base (a.add (j * P.cellsOf e)) (P.cellsOf e) = some cs' ∧ d.K w y cs') ∧ Q y := by
      clear hw h hel
      revert key
      generalize len = L at *
      intro key
      clear hl hme hlm
      induction L with
      | zero => exact ⟨[], rfl, by simp⟩
      | succ L ih =>
        obtain ⟨xs, hx, hp⟩ := ih (fun i hi => key i (by omega))
        obtain ⟨y, hy⟩ := key L (by omega)
        refine ⟨xs ++ [y], by simp [hx], fun j z hz => ?_⟩
        rcases Nat.lt_or_ge j xs.length with hj | hj
        · rw [List.getElem?_append_left hj] at hz
          exact hp j z hz
        · rw [List.getElem?_append_right hj] at hz
          have hj0 : j - xs.length = 0 := by
            rcases Nat.eq_zero_or_pos (j - xs.length) with h0 | h0
            · exact h0
            · rw [List.getElem?_eq_none (by simp; omega)] at hz; cases hz
          rw [hj0] at hz
          cases hz
          obtain rfl : j = L := by omega
          exact hy
    obtain ⟨xs, rfl, hp⟩ := hall
    refine ⟨xs, ⟨some a, cap, rfl, hl, rfl, by have : maxLen = 9223372036854775807 := by decide
                                               omega, fun _ => ⟨a, rfl, fun j y hy => ?_⟩⟩, fun y hy => ?_, ?_⟩
    · obtain ⟨⟨cs', h1, h2⟩, _⟩ := hp j y hy
      refine ⟨cs', d.K_len h2, h2, fun i u hu => ?_⟩
      rw [← hc]
      have hlt : i < cs'.length := (List.getElem?_eq_some_iff.1 hu).1
      obtain ⟨_, hl2, hcell⟩ := World.cells?_some h1
      have := hcell i (by omega)
      rw [hu] at this
      rw [← this]
      congr 1
      exact (Addr.add_add a _ _).symm
    · obtain ⟨j, hj, rfl⟩ := List.getElem_of_mem hy
      exact (hp j _ (List.getElem?_eq_getElem hj)).2
    · have := hw ((xs.length + (m - xs.length)) * P.bytesOf e) (by simp only [DataW.weights, ht, List.mem_cons, List.length_map, List.length_range]; exact Or.inl trivial)
      exact Nat.le_trans (Nat.mul_le_mul_right _ (by omega)) this

theorem opens_mono {α : Type} {P : Program} {t : TypeId} {d : Kd α} {Q Q' : α → Prop} (h : Opens P t d Q) (hq : ∀ a, Q a → Q' a) : Opens P t d Q' := by
  intro H enc w base spare held fuel cs x hx hw
  obtain ⟨a, ha, hqa⟩ := h H enc w base spare held fuel cs x hx hw
  exact ⟨a, ha, hq a hqa⟩
/-- A slice that a row hands in. -/
theorem open_row_slice {α : Type} {d : Kd α} {Q : List α → Prop} {P : Program} {t e : TypeId} (ht : P.underlying t = some (.slice e)) (ho : Opens P t (Kd.slice e d) Q) {H : Type} {enc : TypeId × Value → H} {W : World} {spare : Nat → Bool} {held : Bool} {base : Nat} {v : Value} {D : DataW H} {p : List MemPlace} (hv : Value.okWide P W .any base t v)
    (h : DataW.Trod enc P W 0 spare held t v D p) (hw : ∀ n ∈ D.weights P t, n ≤ reachBytes) : ∃ (A : Option Addr) (l : List α) (c : Nat), v = .slice A l.length c ∧ l.length ≤ c ∧ Kd.C d W A l.length l ∧ Q l := by
  obtain ⟨fuel, hf⟩ := h
  obtain ⟨a, len, cap, rfl⟩ := okWide_slice ht hv
  obtain ⟨l, ⟨A, c, he, hc, hr⟩, hq⟩ := ho H enc W 0 spare held fuel _ _ hf hw
  simp only [Value.cells, List.cons.injEq, and_true] at he
  exact ⟨A, l, c, he, hc, hr, hq⟩
/-- What a row's weights say of one argument. -/
theorem sized_arg {H : Type} {P : Program} {ts : List TypeId} {ds : List (DataW H)} (h : (DataW.weightsEach P ts ds).all (· ≤ reachBytes) = true) {j : Nat} {t : TypeId} {d : DataW H} (ht : ts[j]? = some t) (hd : ds[j]? = some d) : ∀ n ∈ d.weights P t, n ≤ reachBytes := fun n hn => by
  have := List.all_eq_true.1 h n (DataW.weights_mem_each ht hd n hn)
  simpa using this
theorem opens_bool {P : Program} {t : TypeId} (ht : P.underlying t = some .bool) : Opens P t Kd.bool (fun _ => True) := by
  intro H enc w base spare held fuel cs x h hw
  obtain ⟨n, rfl, rfl⟩ := DataW.trod_bool ht h
  exact ⟨n, rfl, trivial⟩
/-- A call, as a kind. -/
def kAc : Kd Ac := Kd.pair (Kd.int .i64) (Kd.pair (Kd.int .i64) (Kd.pair (Kd.int .i64) Kd.bool))
theorem opens_act : Opens Try.prog 38 kAc wfA :=
  opens_mono (opens_struct Try.underlying38 (by kernel_rfl)
    (opensF_cons rfl (by kernel_rfl) (opens_int Try.underlying3) rfl (opensF_cons rfl (by kernel_rfl) (opens_int Try.underlying3) rfl (opensF_cons rfl (by kernel_rfl) (opens_int Try.underlying3) rfl (opensF_one rfl (by kernel_rfl) (opens_bool Try.underlying4))))))
    (fun a h => ⟨h.1, h.2.1, h.2.2.1⟩)
theorem opens_acts : Opens Try.prog 33 (Kd.slice 38 kAc) (fun l => ∀ x ∈ l, wfA x) :=
  opens_mono (opens_slice Try.underlying33 (by kernel_rfl) opens_act) (fun l h => h.1)
theorem acts_of_C {w : World} {A : Option Addr} {l : List Ac} (h : Kd.C kAc w A l.length l) : ActsAt w A l := by
  intro j hj
  obtain ⟨ad, c, rfl, hl, ⟨c1, c2, rfl, h1, c3, c4, rfl, h2, c5, c6, rfl, h3, h4⟩, hc⟩ := Kd.C_get h (0, 0, 0, false) (j : Int) (by omega) (by omega)
  obtain rfl : c1 = _ := h1
  obtain rfl : c3 = _ := h2
  obtain rfl : c5 = _ := h3
  obtain rfl : c6 = _ := h4
  have hx : l.getD (j : Int).toNat (0, 0, 0, false) = l[j] := by
    rw [List.getD_eq_getElem?_getD, Int.toNat_natCast, List.getElem?_eq_getElem hj]
    rfl
  rw [hx, Int.toNat_natCast] at hc
  have hc' : ∀ k u, [Value.int .i64 l[j].1, .int .i64 l[j].2.1, .int .i64 l[j].2.2.1, .bool l[j].2.2.2][k]? = some u → w.cell? (ad.add (j * 4 + k)) = some u := hc
  exact ⟨ad, rfl, hc' 0 _ rfl, by rw [← add_field _ _ 1 (by omega)]; exact hc' 1 _ rfl, by rw [← add_field _ _ 2 (by omega)]; exact hc' 2 _ rfl, by rw [← add_field _ _ 3 (by omega)]; exact hc' 3 _ rfl⟩
end Go.Proofs.Ytafndajnncfpkaa.Ro
