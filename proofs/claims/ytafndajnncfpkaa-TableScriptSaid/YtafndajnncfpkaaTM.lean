/- A table's memory, and what its list of clients says. -/
import Derived.Lib.SlKeysI
import Derived.OneCell
import Derived.Test.YtafndajnncfpkaaProg
import Derived.Test.YtafndajnncfpkaaMP
import Derived.Test.YtafndajnncfpkaaWWords
namespace Go.Proofs.Ytafndajnncfpkaa.Tm
open Go Go.RowKit Go.Maps Go.Proofs.Ytafndajnncfpkaa.Mp Go.Proofs.YtafndajnncfpkaaW.PrintWords
set_option linter.unusedVariables false

/-- A client: its number, when it was touched, whether it is idle. -/
abbrev Cl := Int × Int × Bool
def encC (x : Int × Bool) : Value := .agg #[.int .i64 x.1, .bool x.2]
def tabF (L : List Cl) (k : Int) : Option (Int × Bool) := (L.find? (fun c => decide (c.1 = k))).map (·.2)
def wfI (n : Int) : Prop := (Lit.int .i64 n).wf = true
theorem wfI_iff (n : Int) : wfI n ↔ -9223372036854775808 ≤ n ∧ n ≤ 9223372036854775807 := by
  unfold wfI
  simp [Lit.wf, IntKind.min, IntKind.max, IntKind.signed, IntKind.bits]
def WfL (L : List Cl) : Prop := (L.map (·.1)).Nodup ∧ ∀ c ∈ L, wfI c.1
theorem keyedI : Keyed Try.prog 3 := int_keyed Try.underlying3
theorem keyZ {n : Int} (h : wfI n) : keyOf Try.prog 3 (.int .i64 n) = some (.int .i64 n) := by
  have hk : Try.prog.keyType 3 = true := by kernel_rfl
  have h' : (Lit.int .i64 n).wf = true := h
  simp [keyOf, Try.underlying3, mapKey, h']
theorem tabF_isSome (L : List Cl) (k : Int) : (tabF L k).isSome = true ↔ k ∈ L.map (·.1) := by
  unfold tabF
  rw [Option.isSome_map, List.find?_isSome]
  constructor
  · rintro ⟨c, hc, e⟩
    exact List.mem_map.2 ⟨c, hc, of_decide_eq_true e⟩
  · intro h
    obtain ⟨c, hc, rfl⟩ := List.mem_map.1 h
    exact ⟨c, hc, decide_eq_true rfl⟩
/-- The map of a table. -/
def TMap (W : World) (b n : Nat) (L : List Cl) : Prop := MapT Try.prog 3 (Value.int .i64) encC W b n (tabF L)
theorem TMap.data {W : World} {b n : Nat} {L : List Cl} (h : TMap W b n L) (hL : WfL L) : ∃ D : DataW Value, W.ownsMap Try.prog 3 heldR b n D ∧ (L.map (·.1)).Perm (intKeys D) ∧ Maps.size D = L.length := by
  obtain ⟨D, hD, r⟩ := h
  have hC : CollectedI D (fun _ => false) (L.map (·.1)) := by
    refine ⟨hL.1, fun x => ⟨fun hx => ⟨?_, rfl⟩, fun hx => ?_⟩⟩
    · obtain ⟨c, hc, rfl⟩ := List.mem_map.1 hx
      rw [(r c.1 _ (keyZ (hL.2 c hc))).1]
      exact (tabF_isSome L c.1).2 hx
    · obtain ⟨es, hDe, _, _⟩ := hD.entries keyedI
      have hm : x ∈ intKeys D := by
        subst hDe
        have h1 := hx.1
        rw [has_eq, List.any_eq_true] at h1
        obtain ⟨p, hp, hs⟩ := h1
        obtain ⟨es', hD', hko⟩ := hD.keysOf
        obtain rfl : es = es' := by simpa using hD'
        obtain ⟨v, hv⟩ := hko p hp
        obtain ⟨y, _, hy, _⟩ := Maps.keyOf_i64 Try.underlying3 hv
        refine List.mem_map.2 ⟨p, hp, ?_⟩
        rw [hy] at hs ⊢
        simpa [Lit.sameKey, Go.intOf] using hs
      have hw := intKeys_wf hD Try.underlying3 x hm
      have := (r x _ (keyZ hw)).1
      rw [hx.1] at this
      exact (tabF_isSome L x).1 this.symm
  have hP := hC.perm hD keyedI Try.underlying3 (fun _ => rfl)
  refine ⟨D, hD, hP, ?_⟩
  have := hP.length_eq
  rw [List.length_map] at this
  obtain ⟨es, hDe, _, _⟩ := hD.entries keyedI
  subst hDe
  rw [this, size_eq]
  show _ = (es.map fun p => Go.intOf p.1).length
  rw [List.length_map]
/-- A table: its most, its map, its clients. -/
def TabAt (W : World) (T b n : Nat) (most : Int) (L : List Cl) : Prop := W.heap[T]? = some (.cells #[.int .i64 most, .map (some b)] 54 (0, 0)) ∧ TMap W b n L
theorem TabAt.kept {W W1 : World} {T b n : Nat} {most : Int} {L : List Cl} {row : Option Nat} (h : TabAt W T b n most L) (hg : W.grownBy W1 row) (h1 : some T ≠ row) (h2 : some b ≠ row) : TabAt W1 T b n most L :=
  ⟨(hg.block T (Array.getElem?_eq_some_iff.1 h.1).1 h1).trans h.1, MapT.kept h.2 hg h2⟩
theorem TabAt.below {W W1 : World} {T b n : Nat} {most : Int} {L : List Cl} (h : TabAt W T b n most L) (hB : Below W.heap.size W W1) : TabAt W1 T b n most L :=
  ⟨(hB.block T (Array.getElem?_eq_some_iff.1 h.1).1).trans h.1, MapT.below h.2 hB⟩
theorem TabAt.alloc {W : World} {T b n : Nat} {most : Int} {L : List Cl} (h : TabAt W T b n most L) (o : Obj) : TabAt (W.alloc o) T b n most L := h.below ((Below.refl _ _).alloc (Nat.le_refl _) _)
theorem TabAt.drewN {W : World} {T b n : Nat} {most : Int} {L : List Cl} (h : TabAt W T b n most L) (m : Nat) : TabAt (W.drewN m) T b n most L := h
theorem TabAt.mono {W : World} {T b n n' : Nat} {most : Int} {L : List Cl} (h : TabAt W T b n most L) (hn : n ≤ n') : TabAt W T b n' most L := ⟨h.1, MapT.mono h.2 hn⟩
theorem TabAt.cells {W : World} {T b n : Nat} {most : Int} {L : List Cl} (h : TabAt W T b n most L) : W.cell? ⟨T, 0, none⟩ = some (.int .i64 most) ∧ W.cell? ⟨T, 1, none⟩ = some (.map (some b)) := by
  constructor <;> simp [World.cell?, h.1]
theorem TabAt.ne {W : World} {T b n : Nat} {most : Int} {L : List Cl} (h : TabAt W T b n most L) : b ≠ T := MapT.ne_cells h.2 h.1
theorem TabAt.lt {W : World} {T b n : Nat} {most : Int} {L : List Cl} (h : TabAt W T b n most L) : T < W.heap.size ∧ b < W.heap.size := ⟨(Array.getElem?_eq_some_iff.1 h.1).1, MapT.lt h.2⟩
theorem zeroC (w : World) : (zeroValue 62).run Try.prog w = .ok (.agg #[.int .i64 0, .bool false]) w := by kernel_rfl
end Go.Proofs.Ytafndajnncfpkaa.Tm
