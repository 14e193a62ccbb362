/- Maps whose keys are read as keys: 'm[k]' without 'ok', 'delete', 'len'. -/
import Derived.Maps.OwnOps
import Derived.Deep.RegionLaw
import Derived.Test.YtafndajnncfpkaaMP
namespace Go.Proofs.Ytafndajnncfpkaa.Mp
open Go.RowKit Go.Maps
section
variable {α β : Type} {P : Program} {k : TypeId} {enc : α → Value} {encv : β → Value} {W W1 : World} {b n : Nat} {f f' : α → Option β}
/-- 'm[k]' -/
theorem MapT.look1 (h : MapT P k enc encv W b n f) (K : Keyed P k) {t e : TypeId} (ht : P.underlying t = some (.map k e)) {z : Value} (hz : (zeroValue e).run P W = .ok z W) {a : α} (ha : (keyOf P k (enc a)).isSome = true) :
    (Instr.lookup t (.map (some b)) (enc a) false).run P W = .ok (match f a with | some v => encv v | none => z) W := by
  obtain ⟨l, hl⟩ := Option.isSome_iff_exists.1 ha
  obtain ⟨D, hD, r⟩ := h
  obtain ⟨v, ps, hrun, hv⟩ := hD.lookup K ht hz (zd := .held z) (zp := []) rfl hl
  obtain ⟨h1, h2⟩ := r a l hl
  rw [hrun]
  have hv' : DataW.held v = D.atKey l (.held z) := by
    have := congrArg (·.map Prod.fst) hv
    simpa [heldR] using this
  cases hf : f a with
  | some x =>
    rw [h2 x hf] at hv'
    injection hv' with hv'
    rw [hv']
  | none =>
    rw [hf] at h1
    rw [atKey_of_not_has h1 _ hD.isMap] at hv'
    injection hv' with hv'
    rw [hv']
/-- 'delete(m, k)' -/
theorem MapT.drop (h : MapT P k enc encv W b n f) (K : Keyed P k) {t e : TypeId} (ht : P.underlying t = some (.map k e)) {a : α} (ha : (keyOf P k (enc a)).isSome = true) (ty : TypeId)
    (hs : ∀ a', enc a' = enc a → f' a' = none) (ho : ∀ a', enc a' ≠ enc a → f' a' = f a') :
    ∃ W', (Builtin.delete_ #[t, k] ty #[.map (some b), enc a]).run P W = .ok (.tuple #[]) W' ∧ MapT P k enc encv W' b n f' ∧ W.mapTurned W' b := by
  obtain ⟨l, hl⟩ := Option.isSome_iff_exists.1 ha
  obtain ⟨D, hD, r⟩ := h
  obtain ⟨W', hrun, hD', ht'⟩ := hD.drop K ht hl ty
  refine ⟨W', hrun, ⟨_, hD', fun a' l' hl' => ?_⟩, ht'⟩
  by_cases e : l' = l
  · subst e
    have ee := K.inj hl' hl
    rw [hs a' ee]
    exact ⟨has_del_same, fun x hx => by cases hx⟩
  · have en : enc a' ≠ enc a := fun h => e (by rw [h] at hl'; exact Option.some.inj (hl'.symm.trans hl))
    rw [ho a' en, has_del_other e]
    refine ⟨(r a' l' hl').1, fun x hx z => ?_⟩
    rw [atKey_del_other e]
    exact (r a' l' hl').2 x hx z
end
section
variable {α β : Type} {P : Program} {k : TypeId} {enc : α → Value} {encv : β → Value} {b n : Nat} {f : α → Option β}
variable {ops : Array Oper} {rest : List Oper} {o : Oper} {a : Act} {Q : Exit → Act → World → Prop}
theorem wpList_look1 (W : World) (hg : o.guard = none) (m x : Operand) (t : TypeId) (hop : o.op = Op.lookup t m x false) (h : MapT P k enc encv W b n f) (K : Keyed P k) {e : TypeId} (ht : P.underlying t = some (.map k e)) {z : Value} (hz : (zeroValue e).run P W = .ok z W)
    (hm : a.eval m = .map (some b)) (key : α) (hx : a.eval x = enc key) (ha : (keyOf P k (enc key)).isSome = true)
    (hK : wpList P ops Q rest (a.put o.dst (match f key with | some v => encv v | none => z)) W) : wpList P ops Q (o :: rest) a W := by
  refine wpList_plain hg fun K' hK' => ?_
  have hrun := h.look1 K ht hz ha
  unfold Oper.wp
  simp [execOp, hop, hm, hx, hrun, Result.andThen]
  exact hK' _ _ hK
theorem wpList_drop (W : World) (hg : o.guard = none) (m x : Operand) (t : TypeId) (hop : o.op = Op.call { callee := Callee.builtin Builtin.delete, args := #[m, x], argTypes := #[t, k] }) (h : MapT P k enc encv W b n f) (K : Keyed P k) {e : TypeId} (ht : P.underlying t = some (.map k e))
    (hm : a.eval m = .map (some b)) (key : α) (hx : a.eval x = enc key) (ha : (keyOf P k (enc key)).isSome = true) (f' : α → Option β)
    (hs : ∀ a', enc a' = enc key → f' a' = none) (ho : ∀ a', enc a' ≠ enc key → f' a' = f a')
    (hK : ∀ W', MapT P k enc encv W' b n f' → W.mapTurned W' b → wpList P ops Q rest (a.put o.dst (.tuple #[])) W') : wpList P ops Q (o :: rest) a W := by
  refine wpList_plain hg fun K' hK' => ?_
  obtain ⟨W', hrun, h1, h2⟩ := h.drop K ht ha o.type hs ho
  unfold Oper.wp
  simp [execOp, hop, resolve, invoke, builtin, hm, hx, hrun, Result.andThen]
  exact hK' _ _ (hK W' h1 h2)
end
/-- len of a map, as one step of a region that draws. -/
theorem step_len_map {H : Type} {P : Program} {ops : Array Oper} {o : Oper} {a : Act} {w : World} {K : Act → World → Prop} {Q : Exit → Act → World → Prop} {E : Prop}
    (hg : o.guard = none) (m : Operand) (t : TypeId) (hop : o.op = Op.call { callee := Callee.builtin Builtin.len, args := #[m], argTypes := #[t] })
    (k e : TypeId) (ht : P.underlying t = some (.map k e)) (R : Value → Option (DataW H × List MemPlace)) (b n : Nat) (D : DataW H) (hm : a.eval m = .map (some b)) (hown : w.ownsMap P k R b n D)
    (hK : K (a.put o.dst (.int .i64 (Maps.size D))) w) : if Region.wanted o (yielded ops a.tmps) = true then Oper.wp P o a w K Q else E := by
  have hw : Region.wanted o (yielded ops a.tmps) = true := by simp [Region.wanted, hg]
  rw [if_pos hw]
  have hrun := hown.len ht o.type
  unfold Oper.wp
  simp [execOp, hop, resolve, invoke, builtin, hm, hrun, Result.andThen]
  exact hK
end Go.Proofs.Ytafndajnncfpkaa.Mp
