/- Maps whose keys are read as keys, and whose elements are whatever they are: the words for them. -/
import Derived.Maps.OwnSet
import Derived.Maps.Ext
import Derived.DeepKeys5
import Derived.Deep.Draws
namespace Go.Proofs.Ytafndajnncfpkaa.Mp
open Go.RowKit Go.Maps

/-- Any element reads, as itself. -/
def heldR (v : Value) : Option (DataW Value × List MemPlace) := some (.held v, [])

/-- Block b is a map of at most n entries: at the key that enc a is stands what f says. -/
def MapT {α β : Type} (P : Program) (k : TypeId) (enc : α → Value) (encv : β → Value) (W : World) (b n : Nat) (f : α → Option β) : Prop :=
  ∃ D : DataW Value, W.ownsMap P k heldR b n D ∧ ∀ a l, keyOf P k (enc a) = some l → Maps.has D l = (f a).isSome ∧ ∀ v, f a = some v → ∀ z, D.atKey l z = .held (encv v)

section
variable {α β : Type} {P : Program} {k : TypeId} {enc : α → Value} {encv : β → Value} {W W1 : World} {b n : Nat} {f f' : α → Option β}

theorem atKey_of_not_has {D : DataW Value} {l : Lit} (h : Maps.has D l = false) (z : DataW Value) (hD : IsMap D) : D.atKey l z = z := by
  obtain ⟨es, rfl⟩ := hD
  have hn : es.find? (fun p => p.1.sameKey l) = none := by
    rw [List.find?_eq_none]
    intro p hp hc
    have : es.any (fun p => p.1.sameKey l) = true := List.any_eq_true.2 ⟨p, hp, hc⟩
    have h' : es.any (fun p => p.1.sameKey l) = false := h
    rw [this] at h'
    cases h'
  unfold DataW.atKey
  simp only [hn]

theorem MapT.made (w : World) (P : Program) (k : TypeId) (enc : α → Value) (encv : β → Value) : MapT P k enc encv (w.alloc (.map #[] 0)) w.heap.size 0 (fun _ => none) :=
  ⟨.map [], World.ownsMap_made w P k heldR, fun _ _ _ => ⟨rfl, fun _ h => by cases h⟩⟩
theorem MapT.lt (h : MapT P k enc encv W b n f) : b < W.heap.size := by obtain ⟨D, hD, _⟩ := h; exact hD.lt
theorem MapT.isMap (h : MapT P k enc encv W b n f) : ∃ es c, W.heap[b]? = some (.map es c) := by
  obtain ⟨D, ⟨es, c, hb, _⟩, _⟩ := h
  exact ⟨es, c, hb⟩
theorem MapT.kept {row : Option Nat} (h : MapT P k enc encv W b n f) (hg : W.grownBy W1 row) (hne : some b ≠ row) : MapT P k enc encv W1 b n f := by
  obtain ⟨D, hD, r⟩ := h
  exact ⟨D, hD.kept hg hne, r⟩
theorem MapT.below (h : MapT P k enc encv W b n f) (hB : Below W.heap.size W W1) : MapT P k enc encv W1 b n f :=
  h.kept (row := none) ⟨hB.os, hB.tape, hB.output, hB.size, fun i hi _ => hB.block i hi⟩ (by simp)
theorem MapT.alloc (h : MapT P k enc encv W b n f) (o : Obj) : MapT P k enc encv (W.alloc o) b n f := h.kept (World.grownBy_alloc W o none) (by simp)
theorem MapT.drewN (h : MapT P k enc encv W b n f) (m : Nat) : MapT P k enc encv (W.drewN m) b n f := h
theorem MapT.setCell (h : MapT P k enc encv W b n f) {a : Addr} (ha : b ≠ a.block) (u : Value) : MapT P k enc encv (W.setCell a u) b n f := by
  obtain ⟨D, hD, r⟩ := h
  exact ⟨D, hD.setCell ha u, r⟩
/-- A map's block is no row's. -/
theorem MapT.ne_cells (h : MapT P k enc encv W b n f) {g : Nat} {cs : Array Value} {t : TypeId} {fr : Nat × Nat} (hg : W.heap[g]? = some (.cells cs t fr)) : b ≠ g := by
  obtain ⟨es, c, hb⟩ := h.isMap
  rintro rfl
  rw [hb] at hg
  cases hg
theorem MapT.mono (h : MapT P k enc encv W b n f) {n' : Nat} (hn : n ≤ n') : MapT P k enc encv W b n' f := by
  obtain ⟨D, hD, r⟩ := h
  exact ⟨D, hD.mono hn, r⟩
theorem MapT.says (h : MapT P k enc encv W b n f) (hf : ∀ a, (keyOf P k (enc a)).isSome = true → f' a = f a) : MapT P k enc encv W b n f' := by
  obtain ⟨D, hD, r⟩ := h
  refine ⟨D, hD, fun a l hl => ?_⟩
  rw [hf a (by rw [hl]; rfl)]
  exact r a l hl

/-- 'v, ok := m[k]' -/
theorem MapT.look (h : MapT P k enc encv W b n f) (K : Keyed P k) {t e : TypeId} (ht : P.underlying t = some (.map k e)) {z : Value} (hz : (zeroValue e).run P W = .ok z W) {a : α} (ha : (keyOf P k (enc a)).isSome = true) :
    (Instr.lookup t (.map (some b)) (enc a) true).run P W = .ok (.tuple #[(match f a with | some v => encv v | none => z), .bool (f a).isSome]) W := by
  obtain ⟨l, hl⟩ := Option.isSome_iff_exists.1 ha
  obtain ⟨D, hD, r⟩ := h
  obtain ⟨v, ps, hrun, hv⟩ := hD.look_ok K ht hz (zd := .held z) (zp := []) rfl hl
  obtain ⟨h1, h2⟩ := r a l hl
  rw [hrun, h1]
  have hv' : DataW.held v = D.atKey l (.held z) := by
    have := congrArg (·.map Prod.fst) hv
    simpa [heldR] using this
  cases hf : f a with
  | some x =>
    rw [h2 x hf] at hv'
    injection hv' with hv'
    rw [hv']
  | none =>
    rw [hf] at h1
    rw [atKey_of_not_has h1 _ hD.isMap] at hv'
    injection hv' with hv'
    rw [hv']

/-- 'm[k] = v' -/
theorem MapT.store (h : MapT P k enc encv W b n f) (K : Keyed P k) {t e : TypeId} (ht : P.underlying t = some (.map k e)) (hn : n < maxLen) {a : α} (ha : (keyOf P k (enc a)).isSome = true) (v : β)
    (hs : f' a = some v) (ho : ∀ a', enc a' ≠ enc a → f' a' = f a') (hi : ∀ a', enc a' = enc a → f' a' = f' a) :
    ∃ W', (Instr.mapUpdate t (.map (some b)) (enc a) (encv v)).run P W = .ok () W' ∧ MapT P k enc encv W' b (n + 1) f' ∧ W.mapTurned W' b := by
  obtain ⟨l, hl⟩ := Option.isSome_iff_exists.1 ha
  obtain ⟨D, hD, r⟩ := h
  obtain ⟨W', hrun, hD', ht'⟩ := hD.store K ht hn hl (val := encv v) (d := .held (encv v)) (ps := []) rfl
  refine ⟨W', hrun, ⟨_, hD', fun a' l' hl' => ?_⟩, ht'⟩
  by_cases e : l' = l
  · subst e
    have ee := K.inj hl' hl
    rw [hi a' ee, hs]
    exact ⟨has_put_same hD.isMap (K.key hl) _, fun x hx z => by cases hx; exact atKey_put_same hD.isMap (K.key hl) _ z⟩
  · have en : enc a' ≠ enc a := fun h => e (by rw [h] at hl'; exact Option.some.inj (hl'.symm.trans hl))
    rw [ho a' en, has_put_other e]
    refine ⟨(r a' l' hl').1, fun x hx z => ?_⟩
    rw [atKey_put_other e]
    exact (r a' l' hl').2 x hx z
end

section
variable {α β : Type} {P : Program} {k : TypeId} {enc : α → Value} {encv : β → Value} {b n : Nat} {f : α → Option β}
variable {ops : Array Oper} {rest : List Oper} {o : Oper} {a : Act} {Q : Exit → Act → World → Prop}
theorem wpList_look (W : World) (hg : o.guard = none) (m x : Operand) (t : TypeId) (hop : o.op = Op.lookup t m x true) (h : MapT P k enc encv W b n f) (K : Keyed P k) {e : TypeId} (ht : P.underlying t = some (.map k e)) {z : Value} (hz : (zeroValue e).run P W = .ok z W)
    (hm : a.eval m = .map (some b)) (key : α) (hx : a.eval x = enc key) (ha : (keyOf P k (enc key)).isSome = true)
    (hK : wpList P ops Q rest (a.put o.dst (.tuple #[(match f key with | some v => encv v | none => z), .bool (f key).isSome])) W) : wpList P ops Q (o :: rest) a W := by
  refine wpList_plain hg fun K' hK' => ?_
  have hrun := h.look K ht hz ha
  unfold Oper.wp
  simp [execOp, hop, hm, hx, hrun, Result.andThen]
  exact hK' _ _ hK
theorem wpList_store (W : World) (hg : o.guard = none) (m x v : Operand) (t : TypeId) (hop : o.op = Op.mapUpdate t m x v) (h : MapT P k enc encv W b n f) (K : Keyed P k) {e : TypeId} (ht : P.underlying t = some (.map k e)) (hn : n < maxLen)
    (hm : a.eval m = .map (some b)) (key : α) (hx : a.eval x = enc key) (ha : (keyOf P k (enc key)).isSome = true) (val : β) (hv : a.eval v = encv val) (f' : α → Option β)
    (hs : f' key = some val) (ho : ∀ a', enc a' ≠ enc key → f' a' = f a') (hi : ∀ a', enc a' = enc key → f' a' = f' key)
    (hK : ∀ W', MapT P k enc encv W' b (n + 1) f' → W.mapTurned W' b → wpList P ops Q rest (a.put o.dst undef) W') : wpList P ops Q (o :: rest) a W := by
  refine wpList_plain hg fun K' hK' => ?_
  obtain ⟨W', hrun, h1, h2⟩ := h.store K ht hn ha val hs ho hi
  unfold Oper.wp
  simp [execOp, hop, hm, hx, hv, hrun, Result.andThen]
  exact hK' _ _ (hK W' h1 h2)
end
#print axioms wpList_store
end Go.Proofs.Ytafndajnncfpkaa.Mp
