/- A range over an iterator that keeps its state in one box of its own: the law for the caller. -/
import Derived.RangeFuncNested
import Derived.RangeFuncBound
import Derived.RangeFuncCalls
import Derived.RangeFuncLeaves
namespace Go.Proofs.Ytdkecfjeiookdaa.Iter
open Go.RowKit

/-- What the iterator does between two rounds: new blocks, and its own box g. -/
def AbidesBox {β : Type} (g : Nat) (J : β → World → Prop) : Prop := ∀ s A B row, J s A → A.grownBy B row → (row = none ∨ row = some g) → J s B
/-- What a round keeps for the iterator. -/
def KeepsBox (g : Nat) (W W' : World) : Prop := W.heap.size ≤ W'.heap.size ∧ W'.heap[g]? = W.heap[g]?
theorem KeepsBox.refl (g : Nat) (W : World) : KeepsBox g W W := ⟨Nat.le_refl _, rfl⟩
theorem KeepsBox.trans {g : Nat} {A B C : World} (h : KeepsBox g A B) (k : KeepsBox g B C) : KeepsBox g A C := ⟨Nat.le_trans h.1 k.1, k.2.trans h.2⟩
theorem KeepsBox.putObj {g : Nat} (W : World) (l : Nat) (o' : Obj) (h : l ≠ g) : KeepsBox g W (W.putObj l o') := ⟨by simp, World.putObj_heap_other (fun e => h e.symm)⟩

/-- The contract of such an iterator: Can: which element may come behind which. -/
def SeqBox {α : Type} (F : Fence) (n : Nat) (P : Program) (gf : Nat) (lb : Array Value) (encs : α → Array Value) (g : Nat) (S Sp : List α → Prop) (Can : List α → α → Prop) (w : World) : Prop :=
  ∀ (l : Nat) (J Jx : List α → World → Prop) (W : World), W.heap[g]? = w.heap[g]? → AbidesBox g J → AbidesBox g Jx →
    (∀ pre x W1, J pre W1 → Can pre x → YieldAt F (n - 1) P l (encs x) W1 fun e W' =>
      (e = .returned (.bool true) ∧ J (pre ++ [x]) W' ∧ KeepsBox g W1 W') ∨ (e = .returned (.bool false) ∧ Jx (pre ++ [x]) W')) →
    J [] W →
    CallsIn F n P gf (#[.func (.yield l) #[] #[]] ++ lb) W fun e W' => (∃ v, e = .returned v) ∧ ((∃ xs, S xs ∧ J xs W') ∨ (∃ pre, Sp pre ∧ Jx pre W'))

/-- How a round's body may be left. -/
def boxPost {α : Type} (B g : Nat) (I : List α → World → Prop) (Ix : Code → List α → World → Prop) (xs : List α) (W : World) : Exit → Act → World → Prop
  | .normal, _, W' => KeepsFrom B W W' ∧ KeepsBox g W W' ∧ I xs W'
  | .ret, _, W' => KeepsFrom B W W' ∧ Ix .ret xs W'
  | .exit id, _, W' => KeepsFrom B W W' ∧ Ix (.exit id) xs W'
  | .goto t, _, W' => KeepsFrom B W W' ∧ Ix (.goto t) xs W'
  | .panic _, _, _ => False
  | .outgrown, _, _ => False

variable {F : Fence} {n : Nat} {P : Program}

/-- The loop's own two blocks: its record at l, the block of deferred calls at D. -/
structure Held (W : World) (l D : Nat) (r : Loop) : Prop where
  loop : W.heap[l]? = some (.loop r)
  defs : W.heap[D]? = some (.deferred (some []))
theorem Held.lt {W : World} {l D : Nat} {r : Loop} (h : Held W l D r) : l < W.heap.size := (Array.getElem?_eq_some_iff.1 h.loop).1
theorem Held.next {A B : World} {l D g : Nat} {r : Loop} {row : Option Nat} (h : Held A l D r) (hg : A.grownBy B row) (hr : row = none ∨ row = some g) (hl : l ≠ g) (hD : D ≠ g) : Held B l D r := by
  have one : ∀ {k : Nat} {o : Obj}, A.heap[k]? = some o → k ≠ g → B.heap[k]? = some o := fun {k o} ho hk => by
    rw [← ho]
    refine hg.block k (Array.getElem?_eq_some_iff.1 ho).1 (fun e => ?_)
    cases hr with
    | inl h => rw [h] at e; cases e
    | inr h => rw [h] at e; exact hk (Option.some.inj e)
  exact ⟨one h.loop hl, one h.defs hD⟩
theorem Held.turn {W : World} {l D : Nat} {r : Loop} (h : Held W l D r) (hD : D ≠ l) (r' : Loop) : Held (W.putObj l (.loop r')) l D r' :=
  ⟨World.putObj_heap_same h.lt, (World.putObj_heap_other hD).trans h.defs⟩
theorem Held.from {A B : World} {l D b : Nat} {r : Loop} (h : Held A l D r) (hk : KeepsFrom b A B) (hl : b ≤ l) (hD : b ≤ D) : Held B l D r :=
  ⟨hk.same _ _ hl h.loop rfl, hk.same _ _ hD h.defs rfl⟩
/-- A new loop's blocks, and what lay below them. -/
theorem Held.born (w : World) (r : Loop) : Held ((w.alloc (.deferred (some []))).alloc (.loop r)) (w.heap.size + 1) w.heap.size r := by
  constructor
  · rw [← World.size_alloc w (.deferred (some []))]
    exact World.alloc_heap_new _ _
  · rw [Below.heap_alloc _ _ _ (by rw [World.size_alloc]; exact Nat.lt_succ_self _)]
    exact World.alloc_heap_new _ _

/-- One round of such a loop: a call of yield, out of the assignment's walk and the body's. -/
theorem round_box {α : Type} {l D b g : Nat} (hb : b ≤ l) (hbD : b ≤ D) (hDl : D ≠ l) (hlg : l ≠ g) {fn : FuncId} (hfn : F.fn fn) {tmps : Array Value} {ps : Array Tmp} {assign body : Code} {m : Nat}
    {rec : LoopState → Option Code → Loop} (hrec : rec = fun st pe => { state := st, pending := pe, fn, tmps, params := ps, assign, body, defers := D })
    {xs : Array Value} (hxs : xs.size = ps.size) {W : World} (hH : Held W l D (rec .ready none))
    (I : List α → World → Prop) (Ix : Code → List α → World → Prop) (hI : OwnFrom b I) (hIx : ∀ c, OwnFrom b (Ix c)) (pre : List α) (x : α) (Ax : Act → World → Prop) (hAx : ∀ a', OwnFrom b (fun (_ : Unit) W => Ax a' W))
    (hassign : ∀ K : Act → World → Prop, (∀ a' W', KeepsFrom b W W' → KeepsBox g W W' → I pre W' → Ax a' W' → K a' W') →
      assign.wpIn (F.inRound l) m P (Exit.then K (fun _ _ _ => False)) { tmps := (ps.zip xs).foldl (fun t (p, v) => t.setIfInBounds p v) tmps, defers := [] } W)
    (hbody : ∀ (a' : Act) (W' : World), (∃ r, W'.heap[l]? = some (.loop r)) → I pre W' → Ax a' W' → body.wpIn (F.inRound l) m P (boxPost b g I Ix (pre ++ [x]) W') a' W') :
    YieldAt F m P l xs W fun e W' =>
      (e = .returned (.bool true) ∧ (I (pre ++ [x]) W' ∧ Held W' l D (rec .ready none)) ∧ KeepsBox g W W') ∨
      (e = .returned (.bool false) ∧ ∃ c, Ix c (pre ++ [x]) W' ∧ Held W' l D (rec .done (some c))) := by
  have hy := run_yield (P := P) (args := xs) hH.loop (by rw [hrec]; exact hxs)
  rw [hrec] at hy
  refine ⟨fn, _, assign, body, hy, roundIn_of_wpIn hfn (hassign _ fun a' V hkf hkb hi hax => ?_)⟩
  have hV := hH.from hkf hb hbD
  refine ⟨_, run_beginRound hV.loop (by rw [hrec]), ?_⟩
  have hV2 := hV.turn hDl { rec .ready none with state := .busy }
  refine wpIn_mono (hbody a' _ ⟨_, hV2.loop⟩ (hI.putObj _ hi hb hV.loop rfl) ((hAx a').putObj (s := ()) _ hax hb hV.loop rfl)) fun e a3 U hp => ?_
  -- whatever way the body is left
  have stop : ∀ (c : Code), KeepsFrom b (V.putObj l (.loop { rec .ready none with state := .busy })) U → Ix c (pre ++ [x]) U →
      ∃ v W', (Instr.endRound l (some c)).run P U = .ok v W' ∧ ((Ending.returned v = .returned (.bool true) ∧ (I (pre ++ [x]) W' ∧ Held W' l D (rec .ready none)) ∧ KeepsBox g W W') ∨
        (Ending.returned v = .returned (.bool false) ∧ ∃ c, Ix c (pre ++ [x]) W' ∧ Held W' l D (rec .done (some c)))) := fun c hk hx => by
    have hU := hV2.from hk hb hbD
    have he := run_endRound (P := P) (some c) hU.loop
    rw [hrec] at he hU ⊢
    exact ⟨_, _, he, .inr ⟨rfl, c, (hIx c).putObj _ hx hb hU.loop rfl, hU.turn hDl _⟩⟩
  cases e with
  | normal =>
    have hU := hV2.from hp.1 hb hbD
    have he := run_endRound (P := P) none hU.loop
    rw [hrec] at he hU ⊢
    refine ⟨_, _, he, .inl ⟨rfl, ⟨hI.putObj _ hp.2.2 hb hU.loop rfl, hU.turn hDl _⟩, ?_⟩⟩
    exact (hkb.trans (KeepsBox.putObj _ _ _ hlg)).trans ((by rw [hrec] at hp; exact hp.2.1 : KeepsBox g _ U).trans (KeepsBox.putObj _ _ _ hlg))
  | ret => exact stop .ret hp.1 hp.2
  | exit id => exact stop (.exit id) hp.1 hp.2
  | goto t => exact stop (.goto t) hp.1 hp.2
  | panic ch => exact hp.elim
  | outgrown => exact hp.elim

/-- The law for the caller. -/
theorem wpIn_rangeFunc_box {α : Type} {gop : Operand} {ps : Array Tmp} {assign body : Code} {Q : Exit → Act → World → Prop} {a : Act} {w : World}
    (hro : F.round = none) (h1 : 1 ≤ n) {gf : Nat} {lb : Array Value} (hg : a.eval gop = .func (.func gf) #[] lb) (hFg : F.fn gf) (eg : ∀ args w, (callFunc gf args).run P w = .ok (.enter gf args) w)
    {encs : α → Array Value} {g : Nat} (hgl : g < w.heap.size) {S Sp : List α → Prop} {Can : List α → α → Prop} (hseq : SeqBox F (n - 1) P gf lb encs g S Sp Can w)
    (hps : ∀ x, (encs x).size = ps.size)
    (I : List α → World → Prop) (Ix : Code → List α → World → Prop) (hI : OwnFrom w.heap.size I) (hIg : AbidesBox g I) (hIx : ∀ c, OwnFrom w.heap.size (Ix c)) (hIxg : ∀ c, AbidesBox g (Ix c)) (h0 : I [] w) (Ax : α → Act → World → Prop) (hAx : ∀ x a', OwnFrom w.heap.size (fun (_ : Unit) W => Ax x a' W))
    (hassign : ∀ (l : Nat) (pre : List α) (x : α) (W : World) (K : Act → World → Prop), I pre W → (∀ a' W', KeepsFrom w.heap.size W W' → KeepsBox g W W' → I pre W' → Ax x a' W' → K a' W') →
      assign.wpIn (F.inRound l) (n - 1 - 1) P (Exit.then K (fun _ _ _ => False)) { tmps := (ps.zip (encs x)).foldl (fun t (p, v) => t.setIfInBounds p v) a.tmps, defers := [] } W)
    (hbody : ∀ (l : Nat) (pre : List α) (x : α) (a' : Act) (W : World), w.heap.size ≤ l → (∃ r, W.heap[l]? = some (.loop r)) → I pre W → Ax x a' W → Can pre x → body.wpIn (F.inRound l) (n - 1 - 1) P (boxPost w.heap.size g I Ix (pre ++ [x]) W) a' W)
    (hdone : ∀ (D : Nat) (xs : List α) (W : World), w.heap.size ≤ D → S xs → I xs W → W.heap[D]? = some (.deferred (some [])) → Q .normal { a with defers := { target := .collected D, args := #[] } :: a.defers } W)
    (hstop : ∀ (D : Nat) (c : Code) (pre : List α) (W : World), w.heap.size ≤ D → Sp pre → Ix c pre W → W.heap[D]? = some (.deferred (some [])) → c.wpIn F n P Q { a with defers := { target := .collected D, args := #[] } :: a.defers } W) :
    (Code.rangeFunc gop ps assign body).wpIn F n P Q a w := by
  refine wpIn_rangeFunc fun fn hfn => ?_
  rw [hro]
  obtain ⟨rec, hrec⟩ : ∃ rec : LoopState → Option Code → Loop, rec = fun st pe => { state := st, pending := pe, fn, tmps := a.tmps, params := ps, assign, body, defers := w.heap.size } := ⟨_, rfl⟩
  have hH := Held.born w (rec .ready none)
  have hg1 : ((w.alloc (.deferred (some []))).alloc (.loop (rec .ready none))).heap[g]? = w.heap[g]? :=
    (Below.heap_alloc _ _ _ (by rw [World.size_alloc]; omega)).trans (Below.heap_alloc _ _ _ hgl)
  have hI1 : I [] ((w.alloc (.deferred (some []))).alloc (.loop (rec .ready none))) := hI.alloc _ (hI.alloc _ h0)
  revert hH hg1 hI1
  generalize hW1 : (w.alloc (.deferred (some []))).alloc (.loop (rec .ready none)) = W1
  intro hH hg1 hI1
  refine ⟨w.heap.size + 1, [{ target := .collected w.heap.size, args := #[] }], W1, { target := .fn (.func gf) lb, args := #[.func (.yield (w.heap.size + 1)) #[] #[]] }, W1, gf, #[.func (.yield (w.heap.size + 1)) #[] #[]] ++ lb, W1,
    by rw [← hW1, hrec]; exact run_enterLoop_outer _ _ _ _ _, by simp only [resolve, hg]; simp [go_sem], fun f' hf' => by simp [Target.leads] at hf'; subst hf'; exact hFg, by simp [invoke, go_sem, eg], fun _ => h1, ?_⟩
  have hne : w.heap.size + 1 ≠ g ∧ w.heap.size ≠ g ∧ w.heap.size ≠ w.heap.size + 1 ∧ w.heap.size ≤ w.heap.size + 1 := by omega
  refine (hseq (w.heap.size + 1) (fun pre W => I pre W ∧ Held W (w.heap.size + 1) w.heap.size (rec .ready none)) (fun pre W => ∃ c, Ix c pre W ∧ Held W (w.heap.size + 1) w.heap.size (rec .done (some c))) W1 hg1
    (fun s A B row hs hgr hr => ⟨hIg s A B row hs.1 hgr hr, hs.2.next hgr hr hne.1 hne.2.1⟩)
    (fun s A B row hs hgr hr => hs.imp fun c hc => ⟨hIxg c s A B row hc.1 hgr hr, hc.2.next hgr hr hne.1 hne.2.1⟩)
    (fun pre x W hs hc => round_box hne.2.2.2 (Nat.le_refl _) hne.2.2.1 hne.1 hfn hrec (hps x) hs.2 I Ix hI hIx pre x (Ax x) (hAx x) (fun K hK => hassign _ pre x W K hs.1 hK) (fun a' W' hl hi hax => hbody _ pre x a' W' hne.2.2.2 hl hi hax hc))
    ⟨hI1, hH⟩).mono fun e U hU => ?_
  obtain ⟨⟨v, rfl⟩, hU⟩ := hU
  rcases hU with ⟨xs, hS, hi, hh⟩ | ⟨pre, hSp, c, hi, hh⟩
  · have he := run_endLoop (P := P) hh.loop (by rw [hrec]; simp)
    rw [hrec] at he hh
    exact ⟨none, _, he, hdone _ xs _ (Nat.le_refl _) hS (hI.putObj _ hi hne.2.2.2 hh.loop rfl) (hh.turn hne.2.2.1 _).defs⟩
  · have he := run_endLoop (P := P) hh.loop (by rw [hrec]; simp)
    rw [hrec] at he hh
    exact ⟨some c, _, he, hstop _ c pre _ (Nat.le_refl _) hSp ((hIx c).putObj _ hi hne.2.2.2 hh.loop rfl) (hh.turn hne.2.2.1 _).defs⟩
#print axioms wpIn_rangeFunc_box
end Go.Proofs.Ytdkecfjeiookdaa.Iter
