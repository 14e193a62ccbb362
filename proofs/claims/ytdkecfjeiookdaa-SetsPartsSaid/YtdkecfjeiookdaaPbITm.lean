/- A range over an iterator that keeps its state in one box of its own: the law for the caller. -/
import Derived.RangeFuncNested
import Derived.RangeFuncBound
import Derived.RangeFuncCalls
import Derived.RangeFuncLeaves
import Derived.Lib.Hide
import Derived.Shelf.Abstract
import Derived.Shelf.RegionOpen
import Derived.OwnWalkIn
import Derived.TacticsInMore
import Derived.LoopNIn
import Derived.LoopIn
import Derived.Sort.QuietIn
import Derived.Test.YtdkecfjeiookdaaPbPAx0m
namespace Go.Proofs.Ytdkecfjeiookdaa.Iter
open Go.RowKit

/-- What the iterator does between two rounds: new blocks, and its own box g. -/
def AbidesBox {β : Type} (g : Nat) (J : β → World → Prop) : Prop := ∀ s A B row, J s A → A.grownBy B row → (row = none ∨ row = some g) → J s B
/-- What a round keeps for the iterator. -/
def KeepsBox (g : Nat) (W W' : World) : Prop := W.heap.size ≤ W'.heap.size ∧ W'.heap[g]? = W.heap[g]?
theorem KeepsBox.refl (g : Nat) (W : World) : KeepsBox g W W := ⟨Nat.le_refl _, rfl⟩
theorem KeepsBox.trans {g : Nat} {A B C : World} (h : KeepsBox g A B) (k : KeepsBox g B C) : KeepsBox g A C := ⟨Nat.le_trans h.1 k.1, k.2.trans h.2⟩
theorem KeepsBox.putObj {g : Nat} (W : World) (l : Nat) (o' : Obj) (h : l ≠ g) : KeepsBox g W (W.putObj l o') := ⟨by simp, World.putObj_heap_other (fun e => h e.symm)⟩

/-- The contract of such an iterator: Can: which element may come behind which. -/
def SeqBox {α : Type} (F : Fence) (n : Nat) (P : Program) (gf : Nat) (lb : Array Value) (encs : α → Array Value) (g : Nat) (S Sp : List α → Prop) (Can : List α → α → Prop) (w : World) : Prop :=
  ∀ (l : Nat) (J Jx : List α → World → Prop) (W : World), W.heap[g]? = w.heap[g]? → AbidesBox g J → AbidesBox g Jx →
    (∀ pre x W1, J pre W1 → Can pre x → YieldAt F (n - 1) P l (encs x) W1 fun e W' =>
      (e = .returned (.bool true) ∧ J (pre ++ [x]) W' ∧ KeepsBox g W1 W') ∨ (e = .returned (.bool false) ∧ Jx (pre ++ [x]) W')) →
    J [] W →
    CallsIn F n P gf (#[.func (.yield l) #[] #[]] ++ lb) W fun e W' => (∃ v, e = .returned v) ∧ ((∃ xs, S xs ∧ J xs W') ∨ (∃ pre, Sp pre ∧ Jx pre W'))

/-- How a round's body may be left. -/
def boxPost {α : Type} (B g : Nat) (I : List α → World → Prop) (Ix : Code → List α → World → Prop) (xs : List α) (W : World) : Exit → Act → World → Prop
  | .normal, _, W' => KeepsFrom B W W' ∧ KeepsBox g W W' ∧ I xs W'
  | .ret, _, W' => KeepsFrom B W W' ∧ Ix .ret xs W'
  | .exit id, _, W' => KeepsFrom B W W' ∧ Ix (.exit id) xs W'
  | .goto t, _, W' => KeepsFrom B W W' ∧ Ix (.goto t) xs W'
  | .panic _, _, _ => False
  | .outgrown, _, _ => False

variable {F : Fence} {n : Nat} {P : Program}

/-- The loop's own two blocks: its record at l, the block of deferred calls at D. -/
structure Held (W : World) (l D : Nat) (r : Loop) : Prop where
  loop : W.heap[l]? = some (.loop r)
  defs : W.heap[D]? = some (.deferred (some []))
theorem Held.lt {W : World} {l D : Nat} {r : Loop} (h : Held W l D r) : l < W.heap.size := (Array.getElem?_eq_some_iff.1 h.loop).1
theorem Held.next {A B : World} {l D g : Nat} {r : Loop} {row : Option Nat} (h : Held A l D r) (hg : A.grownBy B row) (hr : row = none ∨ row = some g) (hl : l ≠ g) (hD : D ≠ g) : Held B l D r := by
  have one : ∀ {k : Nat} {o : Obj}, A.heap[k]? = some o → k ≠ g → B.heap[k]? = some o := fun {k o} ho hk => by
    rw [← ho]
    refine hg.block k (Array.getElem?_eq_some_iff.1 ho).1 (fun e => ?_)
    cases hr with
    | inl h => rw [h] at e; cases e
    | inr h => rw [h] at e; exact hk (Option.some.inj e)
  exact ⟨one h.loop hl, one h.defs hD⟩
theorem Held.turn {W : World} {l D : Nat} {r : Loop} (h : Held W l D r) (hD : D ≠ l) (r' : Loop) : Held (W.putObj l (.loop r')) l D r' :=
  ⟨World.putObj_heap_same h.lt, (World.putObj_heap_other hD).trans h.defs⟩
theorem Held.from {A B : World} {l D b : Nat} {r : Loop} (h : Held A l D r) (hk : KeepsFrom b A B) (hl : b ≤ l) (hD : b ≤ D) : Held B l D r :=
  ⟨hk.same _ _ hl h.loop rfl, hk.same _ _ hD h.defs rfl⟩
/-- A new loop's blocks, and what lay below them. -/
theorem Held.born (w : World) (r : Loop) : Held ((w.alloc (.deferred (some []))).alloc (.loop r)) (w.heap.size + 1) w.heap.size r := by
  constructor
  · rw [← World.size_alloc w (.deferred (some []))]
    exact World.alloc_heap_new _ _
  · rw [Below.heap_alloc _ _ _ (by rw [World.size_alloc]; exact Nat.lt_succ_self _)]
    exact World.alloc_heap_new _ _

/-- One round of such a loop: a call of yield, out of the assignment's walk and the body's. -/
theorem round_box {α : Type} {l D b g : Nat} (hb : b ≤ l) (hbD : b ≤ D) (hDl : D ≠ l) (hlg : l ≠ g) {fn : FuncId} (hfn : F.fn fn) {tmps : Array Value} {ps : Array Tmp} {assign body : Code} {m : Nat}
    {rec : LoopState → Option Code → Loop} (hrec : rec = fun st pe => { state := st, pending := pe, fn, tmps, params := ps, assign, body, defers := D })
    {xs : Array Value} (hxs : xs.size = ps.size) {W : World} (hH : Held W l D (rec .ready none))
    (I : List α → World → Prop) (Ix : Code → List α → World → Prop) (hI : OwnFrom b I) (hIx : ∀ c, OwnFrom b (Ix c)) (pre : List α) (x : α) (Ax : Act → World → Prop) (hAx : ∀ a', OwnFrom b (fun (_ : Unit) W => Ax a' W))
    (hassign : ∀ K : Act → World → Prop, (∀ a' W', KeepsFrom b W W' → KeepsBox g W W' → I pre W' → Ax a' W' → K a' W') →
      assign.wpIn (F.inRound l) m P (Exit.then K (fun _ _ _ => False)) { tmps := (ps.zip xs).foldl (fun t (p, v) => t.setIfInBounds p v) tmps, defers := [] } W)
    (hbody : ∀ (a' : Act) (W' : World), (∃ r, W'.heap[l]? = some (.loop r)) → I pre W' → Ax a' W' → body.wpIn (F.inRound l) m P (boxPost b g I Ix (pre ++ [x]) W') a' W') :
    YieldAt F m P l xs W fun e W' =>
      (e = .returned (.bool true) ∧ (I (pre ++ [x]) W' ∧ Held W' l D (rec .ready none)) ∧ KeepsBox g W W') ∨
      (e = .returned (.bool false) ∧ ∃ c, Ix c (pre ++ [x]) W' ∧ Held W' l D (rec .done (some c))) := by
  have hy := run_yield (P := P) (args := xs) hH.loop (by rw [hrec]; exact hxs)
  rw [hrec] at hy
  refine ⟨fn, _, assign, body, hy, roundIn_of_wpIn hfn (hassign _ fun a' V hkf hkb hi hax => ?_)⟩
  have hV := hH.from hkf hb hbD
  refine ⟨_, run_beginRound hV.loop (by rw [hrec]), ?_⟩
  have hV2 := hV.turn hDl { rec .ready none with state := .busy }
  refine wpIn_mono (hbody a' _ ⟨_, hV2.loop⟩ (hI.putObj _ hi hb hV.loop rfl) ((hAx a').putObj (s := ()) _ hax hb hV.loop rfl)) fun e a3 U hp => ?_
  -- whatever way the body is left
  have stop : ∀ (c : Code), KeepsFrom b (V.putObj l (.loop { rec .ready none with state := .busy })) U → Ix c (pre ++ [x]) U →
      ∃ v W', (Instr.endRound l (some c)).run P U = .ok v W' ∧ ((Ending.returned v = .returned (.bool true) ∧ (I (pre ++ [x]) W' ∧ Held W' l D (rec .ready none)) ∧ KeepsBox g W W') ∨
        (Ending.returned v = .returned (.bool false) ∧ ∃ c, Ix c (pre ++ [x]) W' ∧ Held W' l D (rec .done (some c)))) := fun c hk hx => by
    have hU := hV2.from hk hb hbD
    have he := run_endRound (P := P) (some c) hU.loop
    rw [hrec] at he hU ⊢
    exact ⟨_, _, he, .inr ⟨rfl, c, (hIx c).putObj _ hx hb hU.loop rfl, hU.turn hDl _⟩⟩
  cases e with
  | normal =>
    have hU := hV2.from hp.1 hb hbD
    have he := run_endRound (P := P) none hU.loop
    rw [hrec] at he hU ⊢
    refine ⟨_, _, he, .inl ⟨rfl, ⟨hI.putObj _ hp.2.2 hb hU.loop rfl, hU.turn hDl _⟩, ?_⟩⟩
    exact (hkb.trans (KeepsBox.putObj _ _ _ hlg)).trans ((by rw [hrec] at hp; exact hp.2.1 : KeepsBox g _ U).trans (KeepsBox.putObj _ _ _ hlg))
  | ret => exact stop .ret hp.1 hp.2
  | exit id => exact stop (.exit id) hp.1 hp.2
  | goto t => exact stop (.goto t) hp.1 hp.2
  | panic ch => exact hp.elim
  | outgrown => exact hp.elim

/-- The law for the caller. -/
theorem wpIn_rangeFunc_box {α : Type} {gop : Operand} {ps : Array Tmp} {assign body : Code} {Q : Exit → Act → World → Prop} {a : Act} {w : World}
    (hro : F.round = none) (h1 : 1 ≤ n) {gf : Nat} {lb : Array Value} (hg : a.eval gop = .func (.func gf) #[] lb) (hFg : F.fn gf) (eg : ∀ args w, (callFunc gf args).run P w = .ok (.enter gf args) w)
    {encs : α → Array Value} {g : Nat} (hgl : g < w.heap.size) {S Sp : List α → Prop} {Can : List α → α → Prop} (hseq : SeqBox F (n - 1) P gf lb encs g S Sp Can w)
    (hps : ∀ x, (encs x).size = ps.size)
    (I : List α → World → Prop) (Ix : Code → List α → World → Prop) (hI : OwnFrom w.heap.size I) (hIg : AbidesBox g I) (hIx : ∀ c, OwnFrom w.heap.size (Ix c)) (hIxg : ∀ c, AbidesBox g (Ix c)) (h0 : I [] w) (Ax : α → Act → World → Prop) (hAx : ∀ x a', OwnFrom w.heap.size (fun (_ : Unit) W => Ax x a' W))
    (hassign : ∀ (l : Nat) (pre : List α) (x : α) (W : World) (K : Act → World → Prop), I pre W → (∀ a' W', KeepsFrom w.heap.size W W' → KeepsBox g W W' → I pre W' → Ax x a' W' → K a' W') →
      assign.wpIn (F.inRound l) (n - 1 - 1) P (Exit.then K (fun _ _ _ => False)) { tmps := (ps.zip (encs x)).foldl (fun t (p, v) => t.setIfInBounds p v) a.tmps, defers := [] } W)
    (hbody : ∀ (l : Nat) (pre : List α) (x : α) (a' : Act) (W : World), w.heap.size ≤ l → (∃ r, W.heap[l]? = some (.loop r)) → I pre W → Ax x a' W → Can pre x → body.wpIn (F.inRound l) (n - 1 - 1) P (boxPost w.heap.size g I Ix (pre ++ [x]) W) a' W)
    (hdone : ∀ (D : Nat) (xs : List α) (W : World), w.heap.size ≤ D → S xs → I xs W → W.heap[D]? = some (.deferred (some [])) → Q .normal { a with defers := { target := .collected D, args := #[] } :: a.defers } W)
    (hstop : ∀ (D : Nat) (c : Code) (pre : List α) (W : World), w.heap.size ≤ D → Sp pre → Ix c pre W → W.heap[D]? = some (.deferred (some [])) → c.wpIn F n P Q { a with defers := { target := .collected D, args := #[] } :: a.defers } W) :
    (Code.rangeFunc gop ps assign body).wpIn F n P Q a w := by
  refine wpIn_rangeFunc fun fn hfn => ?_
  rw [hro]
  obtain ⟨rec, hrec⟩ : ∃ rec : LoopState → Option Code → Loop, rec = fun st pe => { state := st, pending := pe, fn, tmps := a.tmps, params := ps, assign, body, defers := w.heap.size } := ⟨_, rfl⟩
  have hH := Held.born w (rec .ready none)
  have hg1 : ((w.alloc (.deferred (some []))).alloc (.loop (rec .ready none))).heap[g]? = w.heap[g]? :=
    (Below.heap_alloc _ _ _ (by rw [World.size_alloc]; omega)).trans (Below.heap_alloc _ _ _ hgl)
  have hI1 : I [] ((w.alloc (.deferred (some []))).alloc (.loop (rec .ready none))) := hI.alloc _ (hI.alloc _ h0)
  revert hH hg1 hI1
  generalize hW1 : (w.alloc (.deferred (some []))).alloc (.loop (rec .ready none)) = W1
  intro hH hg1 hI1
  refine ⟨w.heap.size + 1, [{ target := .collected w.heap.size, args := #[] }], W1, { target := .fn (.func gf) lb, args := #[.func (.yield (w.heap.size + 1)) #[] #[]] }, W1, gf, #[.func (.yield (w.heap.size + 1)) #[] #[]] ++ lb, W1,
    by rw [← hW1, hrec]; exact run_enterLoop_outer _ _ _ _ _, by simp only [resolve, hg]; simp [go_sem], fun f' hf' => by simp [Target.leads] at hf'; subst hf'; exact hFg, by simp [invoke, go_sem, eg], fun _ => h1, ?_⟩
  have hne : w.heap.size + 1 ≠ g ∧ w.heap.size ≠ g ∧ w.heap.size ≠ w.heap.size + 1 ∧ w.heap.size ≤ w.heap.size + 1 := by omega
  refine (hseq (w.heap.size + 1) (fun pre W => I pre W ∧ Held W (w.heap.size + 1) w.heap.size (rec .ready none)) (fun pre W => ∃ c, Ix c pre W ∧ Held W (w.heap.size + 1) w.heap.size (rec .done (some c))) W1 hg1
    (fun s A B row hs hgr hr => ⟨hIg s A B row hs.1 hgr hr, hs.2.next hgr hr hne.1 hne.2.1⟩)
    (fun s A B row hs hgr hr => hs.imp fun c hc => ⟨hIxg c s A B row hc.1 hgr hr, hc.2.next hgr hr hne.1 hne.2.1⟩)
    (fun pre x W hs hc => round_box hne.2.2.2 (Nat.le_refl _) hne.2.2.1 hne.1 hfn hrec (hps x) hs.2 I Ix hI hIx pre x (Ax x) (hAx x) (fun K hK => hassign _ pre x W K hs.1 hK) (fun a' W' hl hi hax => hbody _ pre x a' W' hne.2.2.2 hl hi hax hc))
    ⟨hI1, hH⟩).mono fun e U hU => ?_
  obtain ⟨⟨v, rfl⟩, hU⟩ := hU
  rcases hU with ⟨xs, hS, hi, hh⟩ | ⟨pre, hSp, c, hi, hh⟩
  · have he := run_endLoop (P := P) hh.loop (by rw [hrec]; simp)
    rw [hrec] at he hh
    exact ⟨none, _, he, hdone _ xs _ (Nat.le_refl _) hS (hI.putObj _ hi hne.2.2.2 hh.loop rfl) (hh.turn hne.2.2.1 _).defs⟩
  · have he := run_endLoop (P := P) hh.loop (by rw [hrec]; simp)
    rw [hrec] at he hh
    exact ⟨some c, _, he, hstop _ c pre _ (Nat.le_refl _) hSp ((hIx c).putObj _ hi hne.2.2.2 hh.loop rfl) (hh.turn hne.2.2.1 _).defs⟩
#print axioms wpIn_rangeFunc_box
end Go.Proofs.Ytdkecfjeiookdaa.Iter
/- Contracts by hand: a name's labels, by the iterator over them. -/
namespace Go.Proofs.Ytdkecfjeiookdaa.PA
open Go.RowKit Go.Shelf Go.Proofs.YtdkecfjeiookdaaW.PrintWords Go.Proofs.YtdkecfjeiookdaaW.PrintLast Go.Proofs.YtdkecfjeiookdaaW.PrintMore Go.Proofs.Ytdkecfjeiookdaa.Iter
set_option linter.unusedVariables false
set_option linter.unusedSimpArgs false
attribute [local go_sem] Oper.semAt_some

/-- What all tells of a text: its labels one by one, and at last ("", false) if it is no name. -/
def labs (s : ByteArray) : List (ByteArray × Bool) :=
  if s.toList = [0] then []
  else if s.size = 0 ∨ bt s 0 = 0 ∨ bt s 0 > 63 ∨ bt s 0 ≥ s.size then [(⟨#[]⟩, false)]
  else (s.extract 1 (1 + (bt s 0).toNat), true) :: labs (s.extract (1 + (bt s 0).toNat) s.size)
termination_by s.size
decreasing_by
  rename_i h1 h2
  rw [ByteArray.size_extract]
  have := bt_range s 0
  omega

/-- The text that the iterator's box holds. -/
def heldText (W : World) (g : Nat) : Nat := match W.cell? ⟨g, 0, none⟩ with
  | some (.string s) => s.size
  | _ => 0

theorem grown_drewN (w : World) (n : Nat) (row : Option Nat) : w.grownBy (w.drewN n) row := ⟨rfl, rfl, rfl, Nat.le_refl _, fun _ _ _ => rfl⟩
/-- A round, whichever way it ends, in one form. -/
theorem yield_one {F : Fence} {m : Nat} {P : Program} {l : Nat} {args : Array Value} {W : World} {R1 R2 : World → Prop} (h : YieldAt F m P l args W fun e W' => (e = .returned (.bool true) ∧ R1 W') ∨ (e = .returned (.bool false) ∧ R2 W')) :
    YieldAt F m P l args W fun e W' => ∃ b : Bool, e = .returned (.bool b) ∧ Hid ((b = true ∧ R1 W') ∨ (b = false ∧ R2 W')) :=
  h.mono fun e W' hr => by
    rcases hr with ⟨rfl, h⟩ | ⟨rfl, h⟩
    · exact ⟨true, rfl, Lib.hid (.inl ⟨rfl, h⟩)⟩
    · exact ⟨false, rfl, Lib.hid (.inr ⟨rfl, h⟩)⟩

theorem heldText_eq {W : World} {g t : Nat} {s : ByteArray} (h : Boxed W g t (.string s)) : heldText W g = s.size := by
  unfold heldText
  rw [h.cell]
theorem grown_drew_set (w : World) (g : Nat) (v : Value) : w.grownBy (w.drew.setCell ⟨g, 0, none⟩ v) (some g) :=
  ⟨rfl, rfl, rfl, (KeepsWalks.setCell w.drew _ v).size, fun k _ hk => Below.heap_setCell w.drew _ v k (fun e => hk (by rw [e]))⟩

def encsL (x : ByteArray × Bool) : Array Value := #[.string x.1, .bool x.2]

set_option maxRecDepth 100000 in
set_option maxHeartbeats 2000000 in
theorem name_all1_in (n : Nat) (hn : 1 ≤ n) (g : Nat) (s0 : ByteArray) (hs0 : s0.size ≤ 140737488355328) (w : World) (hb : Boxed w g 9 (.string s0)) :
    SeqBox Fence.wide n Try.prog 140 #[.pointer (some ⟨g, 0, none⟩)] encsL g (fun xs => xs = labs s0) (fun pre => pre <+: labs s0) (fun pre x => pre ++ [x] <+: labs s0) w := by
  intro l J Jx W hW hJ hJx hY h0
  replace hb : Boxed W g 9 (.string s0) := hW.trans hb
  clear hW
  refine callsIn_of_wp Try.func140 rfl trivial ?_ rfl
  simp only [Try.ntmps140, List.size_toArray, List.length_cons, List.length_nil, Nat.reduceAdd, Nat.reduceSub, Array.replicate_succ, Array.replicate_zero, List.push_toArray, List.append_toArray, List.nil_append, List.cons_append]
  gi_wp2
  gi_loopw [4] (fun _ wr => ∃ (pre : List (ByteArray × Bool)) (s : ByteArray), labs s0 = pre ++ labs s ∧ s.size ≤ s0.size ∧ Boxed wr g 9 (.string s) ∧ J pre wr) (fun _ wr => heldText wr g)
  case atStart => exact ⟨[], s0, rfl, Nat.le_refl _, hb, h0⟩
  case round =>
    obtain ⟨pre, s, hl, hle, hB, hJs⟩ := hrel
    have hc := hB.cell
    have HM := Lib.hid (heldText_eq hB)
    by_cases hr : s.toList = [0]
    · gi_wp2
      refine bodyPost_ret (results_none rfl _ _ _) rfl ?_
      exact ⟨⟨_, rfl⟩, .inl ⟨pre, by rw [hl, labs, if_pos hr, List.append_nil], hJs⟩⟩
    · have hr0 : (s.toList == [0]) = false := by simpa using hr
      have hx0 : ∀ h : 0 < s.size, ((s[0]'h).toNat : Int) = bt s 0 := bt_at s 0
      by_cases h1 : s.size = 0
      · have HL := Lib.hid hl
        have HR := Lib.hid hr
        clear hl hr
        have h1' : ((s.size : Int) == 0) = true := by simp [h1]
        have H1 := Lib.hid h1
        clear h1
        gi_wp2
        gi_quiet (fail)
        rename_i nq
        obtain ⟨fn, tmps, assign, body, hy, hR⟩ := hY pre (⟨#[]⟩, false) (wr.drewN nq) (hJ _ _ _ none hJs (grown_drewN _ _ _) (.inl rfl)) (by rw [HL.out, labs, if_neg HR.out, if_pos (.inl H1.out)]; exact List.prefix_rfl)
        dsimp only [encsL] at hy
        gi_wp2
        refine hR.mono ?_
        rintro e W3 (⟨rfl, hJ3, hk3⟩ | ⟨rfl, hJx3⟩)
        · gi_wp2
          refine bodyPost_ret (results_none rfl _ _ _) rfl ?_
          exact ⟨⟨_, rfl⟩, .inl ⟨_, by rw [HL.out, labs, if_neg HR.out, if_pos (.inl H1.out)], hJ3⟩⟩
        · gi_wp2
          refine bodyPost_ret (results_none rfl _ _ _) rfl ?_
          exact ⟨⟨_, rfl⟩, .inr ⟨_, by rw [HL.out, labs, if_neg HR.out, if_pos (.inl H1.out)]; exact List.prefix_rfl, hJx3⟩⟩
      · have h0s : 0 < s.size := by omega
        have hb0 := bt_range s 0
        have b1 : ((s.size : Int) == 0) = false := by simp [h1]
        by_cases hgood : ¬ (bt s 0 = 0 ∨ bt s 0 > 63 ∨ bt s 0 ≥ s.size)
        · have g0 : ¬ bt s 0 = 0 := fun h => hgood (.inl h)
          have g1 : bt s 0 ≤ 63 := by omega
          have g2 : bt s 0 < s.size := by omega
          have g3 : 1 ≤ bt s 0 := by omega
          have b2 : (bt s 0 == 0) = false := beq_eq_false_iff_ne.2 g0
          have b3 : decide (63 < bt s 0) = false := decide_eq_false (by omega)
          have b4 : decide ((s.size : Int) ≤ bt s 0) = false := decide_eq_false (by omega)
          have hl2 : labs s = (s.extract 1 (1 + (bt s 0).toNat), true) :: labs (s.extract (1 + (bt s 0).toNat) s.size) := by rw [labs, if_neg hr, if_neg (by omega)]
          have HL := Lib.hid (hl.trans (by rw [hl2]))
          have HR := Lib.hid hr
          have HG := Lib.hid hgood
          clear hl hr hgood hl2 g0
          gi_wp2
          gi_quiet (fail)
          rename_i nq
          obtain ⟨fn, tmps, assign, body, hy, hR⟩ := yield_one (hY pre (s.extract 1 (1 + (bt s 0).toNat), true) (wr.drewN (nq + 1)) (hJ _ _ _ none hJs (grown_drewN _ _ _) (.inl rfl)) (by rw [HL.out]; exact ⟨labs (s.extract (1 + (bt s 0).toNat) s.size), by simp⟩))
          dsimp only [encsL] at hy
          gi_wp2
          have hmx : Try.prog.follows .mixedOrders = true := by kernel_rfl
          have w1 : IntKind.i64.wrap (bt s 0) = bt s 0 := IntWalk.i64_in _ (by omega)
          have w2 : IntKind.i64.wrap (1 + bt s 0) = 1 + bt s 0 := IntWalk.i64_in _ (by omega)
          have w3 : (0 : Int) ≤ 1 + bt s 0 := by omega
          have w4 : (1 : Int) ≤ 1 + bt s 0 := by omega
          have w5 : 1 + bt s 0 ≤ s.size := by omega
          have w6 : (1 + bt s 0).toNat = 1 + (bt s 0).toNat := by omega
          gi_region_with_o (refine hR.mono ?_; rintro e W3 ⟨b, rfl, hP⟩)
          all_goals
            rcases hP.out with ⟨rfl, hJ3, hk3⟩ | ⟨rfl, hJx3⟩
            · have hB3 : Boxed W3 g 9 (.string s) := hk3.2.trans hB
              have hc3 := hB3.cell
              have hf3 := hB3.frozen
              clear hP hc hB hJs hy hR
              gi_wp2
              gi_region_with_o (fail)
              all_goals
                gi_wp2
                go_roundw
                case rel => exact ⟨pre ++ [_], s.extract (1 + (bt s 0).toNat) s.size, by rw [HL.out]; simp, by rw [ByteArray.size_extract]; omega, (show Boxed W3.drew g 9 (.string s) from hB3).set _, hJ _ _ _ (some g) hJ3 (grown_drew_set _ _ _) (.inr rfl)⟩
                case measure =>
                  rw [heldText_eq (show Boxed (W3.setCell ⟨g, 0, none⟩ (.string (s.extract (1 + (bt s 0).toNat) s.size))).drew g 9 (.string (s.extract (1 + (bt s 0).toNat) s.size)) from hB3.set _), HM.out, ByteArray.size_extract]
                  omega
            · gi_wp2
              refine bodyPost_ret (results_none rfl _ _ _) rfl ?_
              exact ⟨⟨_, rfl⟩, .inr ⟨_, by rw [HL.out]; exact ⟨labs (s.extract (1 + (bt s 0).toNat) s.size), by simp⟩, hJx3⟩⟩
        · have hbad : bt s 0 = 0 ∨ bt s 0 > 63 ∨ bt s 0 ≥ s.size := Decidable.not_not.1 hgood
          have hl2 : labs s = [(⟨#[]⟩, false)] := by rw [labs, if_neg hr, if_pos (.inr hbad)]
          have HL := Lib.hid (hl.trans (by rw [hl2]))
          have HR := Lib.hid hr
          clear hl hr hgood hl2
          by_cases g0 : bt s 0 = 0
          · have b2 : (bt s 0 == 0) = true := beq_iff_eq.2 g0
            clear hbad g0
            gi_wp2
            gi_quiet (fail)
            rename_i nq
            obtain ⟨fn, tmps, assign, body, hy, hR⟩ := hY pre (⟨#[]⟩, false) (wr.drewN nq) (hJ _ _ _ none hJs (grown_drewN _ _ _) (.inl rfl)) (by rw [HL.out]; exact List.prefix_rfl)
            dsimp only [encsL] at hy
            gi_wp2
            refine hR.mono ?_
            rintro e W3 (⟨rfl, hJ3, hk3⟩ | ⟨rfl, hJx3⟩)
            · gi_wp2
              refine bodyPost_ret (results_none rfl _ _ _) rfl ?_
              exact ⟨⟨_, rfl⟩, .inl ⟨_, HL.out.symm, hJ3⟩⟩
            · gi_wp2
              refine bodyPost_ret (results_none rfl _ _ _) rfl ?_
              exact ⟨⟨_, rfl⟩, .inr ⟨_, by rw [HL.out]; exact List.prefix_rfl, hJx3⟩⟩
          · have b2 : (bt s 0 == 0) = false := beq_eq_false_iff_ne.2 g0
            by_cases g1 : bt s 0 > 63
            · have b3 : decide (63 < bt s 0) = true := decide_eq_true (by omega)
              clear hbad g0
              gi_wp2
              gi_quiet (fail)
              rename_i nq
              obtain ⟨fn, tmps, assign, body, hy, hR⟩ := hY pre (⟨#[]⟩, false) (wr.drewN nq) (hJ _ _ _ none hJs (grown_drewN _ _ _) (.inl rfl)) (by rw [HL.out]; exact List.prefix_rfl)
              dsimp only [encsL] at hy
              gi_wp2
              refine hR.mono ?_
              rintro e W3 (⟨rfl, hJ3, hk3⟩ | ⟨rfl, hJx3⟩)
              · gi_wp2
                refine bodyPost_ret (results_none rfl _ _ _) rfl ?_
                exact ⟨⟨_, rfl⟩, .inl ⟨_, HL.out.symm, hJ3⟩⟩
              · gi_wp2
                refine bodyPost_ret (results_none rfl _ _ _) rfl ?_
                exact ⟨⟨_, rfl⟩, .inr ⟨_, by rw [HL.out]; exact List.prefix_rfl, hJx3⟩⟩
            · have b3 : decide (63 < bt s 0) = false := decide_eq_false (by omega)
              have b4 : decide ((s.size : Int) ≤ bt s 0) = true := decide_eq_true (by omega)
              clear hbad g0
              gi_wp2
              gi_quiet (fail)
              rename_i nq
              obtain ⟨fn, tmps, assign, body, hy, hR⟩ := hY pre (⟨#[]⟩, false) (wr.drewN nq) (hJ _ _ _ none hJs (grown_drewN _ _ _) (.inl rfl)) (by rw [HL.out]; exact List.prefix_rfl)
              dsimp only [encsL] at hy
              gi_wp2
              refine hR.mono ?_
              rintro e W3 (⟨rfl, hJ3, hk3⟩ | ⟨rfl, hJx3⟩)
              · gi_wp2
                refine bodyPost_ret (results_none rfl _ _ _) rfl ?_
                exact ⟨⟨_, rfl⟩, .inl ⟨_, HL.out.symm, hJ3⟩⟩
              · gi_wp2
                refine bodyPost_ret (results_none rfl _ _ _) rfl ?_
                exact ⟨⟨_, rfl⟩, .inr ⟨_, by rw [HL.out]; exact List.prefix_rfl, hJx3⟩⟩

set_option maxHeartbeats 1000000 in
theorem name_all_calls (s : ByteArray) (w : World) : Calls Try.prog 123 #[.string s] w fun e w' => e = .returned (.func (.func 140) #[] #[.pointer (some ⟨w.heap.size, 0, none⟩)]) ∧ w' = w.alloc (.cells #[.string s] 9) := by
  go_enter Try.func123, Try.ntmps123
  go_wp2
  go_ret
  exact ⟨rfl, rfl⟩

#print axioms name_all1_in
end Go.Proofs.Ytdkecfjeiookdaa.PA
/- Contracts by hand: Labels. -/

namespace Go.Proofs.Ytdkecfjeiookdaa.PA
open Go.RowKit Go.Shelf Go.Proofs.YtdkecfjeiookdaaW.PrintWords Go.Proofs.YtdkecfjeiookdaaW.PrintLast Go.Proofs.YtdkecfjeiookdaaW.PrintMore Go.Proofs.Ytdkecfjeiookdaa.Iter
set_option linter.unusedVariables false
set_option linter.unusedSimpArgs false
attribute [local go_sem] Oper.semAt_some

theorem infoS : (Try.prog.info? 9).map (fun i => (i.zero, i.size, i.bytes)) = some (some (.string ⟨#[]⟩), 1, 16) := by kernel_rfl
theorem labs_length (s : ByteArray) : (labs s).length ≤ s.size + 1 := by
  induction hm : s.size using Nat.strongRecOn generalizing s with
  | _ m ih =>
    rw [labs]
    split
    · exact Nat.zero_le _
    · split
      · exact Nat.le_add_left _ _
      · rename_i h1 h2
        have hb := bt_range s 0
        have := ih (s.size - (1 + (bt s 0).toNat)) (by omega) (s.extract (1 + (bt s 0).toNat) s.size) (by rw [ByteArray.size_extract]; omega)
        simp only [List.length_cons]
        omega

def name_Labels.f (a0 : ByteArray) : Option (List ByteArray × Int) :=
  if a0.size ≤ 4398046511104 then (if (labs a0).all (·.2) = true then (if (a0.size : Int) > 255 then some ([], 3) else some ((labs a0).map (·.1), 0)) else some ([], 4)) else none

/-- What holds between two rounds of Labels' loop. -/
def LabI (w : World) (pre : List (ByteArray × Bool)) (W : World) : Prop :=
  Boxed W w.heap.size 30 (.slice none 0 0) ∧ Boxed W (w.heap.size + 1) 36 (.int .i64 0) ∧
  (∃ v, Boxed W (w.heap.size + 2) 30 v ∧ W.ownsRow (w.heap.size + 4) 9 1 v pre.length (pre.map fun x => Value.string x.1)) ∧ (∀ x ∈ pre, x.2 = true) ∧ Below w.heap.size w W
/-- Behind a label that is none. -/
def LabX (w : World) (c : Code) (pre : List (ByteArray × Bool)) (W : World) : Prop :=
  c = .ret ∧ Boxed W w.heap.size 30 (.slice none 0 0) ∧ Boxed W (w.heap.size + 1) 36 (.int .i64 4) ∧ (∃ x ∈ pre, x.2 = false) ∧ Below w.heap.size w W

theorem box_next {A B : World} {row : Option Nat} {b t : Nat} {v : Value} (h : Boxed A b t v) (hg : A.grownBy B row) (hne : ∀ r, row = some r → r ≠ b) : Boxed B b t v :=
  h.kept hg (fun e => hne b e.symm rfl)
theorem below_next {A B w : World} {row : Option Nat} (h : Below w.heap.size w A) (hg : A.grownBy B row) (hne : ∀ r, row = some r → w.heap.size ≤ r) : Below w.heap.size w B := h.grown hg h.size hne
theorem row_next {A B : World} {row : Option Nat} {base e n : Nat} {v : Value} {xs : List Value} (h : A.ownsRow base e 1 v n xs) (hg : A.grownBy B row) (hne : ∀ r, row = some r → r < base ∨ ∃ o, A.heap[r]? = some o ∧ o.isCells = false) : B.ownsRow base e 1 v n xs := by
  refine h.kept hg ?_
  rcases h.2 with ⟨rfl, _⟩ | ⟨g, cap, cur, rfl, hb, hgb, _⟩
  · exact .inl rfl
  · refine .inr fun e' => ?_
    have er : row = some g := by simpa [Value.ownBlock] using e'.symm
    rcases hne g er with h1 | ⟨o, ho, hc⟩
    · omega
    · rw [hgb] at ho; cases ho; cases hc
theorem LabI.step {w A B : World} {row : Option Nat} {pre : List (ByteArray × Bool)} (h : LabI w pre A) (hg : A.grownBy B row) (hr : ∀ r, row = some r → r = w.heap.size + 3 ∨ (w.heap.size + 4 ≤ r ∧ ∃ o, A.heap[r]? = some o ∧ o.isCells = false)) : LabI w pre B := by
  obtain ⟨c2, c3, ⟨v, c4, hrow⟩, ht, hB⟩ := h
  have hge : ∀ r, row = some r → w.heap.size + 3 ≤ r := fun r e => by rcases hr r e with h | ⟨h, _⟩ <;> omega
  refine ⟨box_next c2 hg (fun r e => by have := hge r e; omega), box_next c3 hg (fun r e => by have := hge r e; omega), ⟨v, box_next c4 hg (fun r e => by have := hge r e; omega), row_next hrow hg (fun r e => ?_)⟩, ht, below_next hB hg (fun r e => by have := hge r e; omega)⟩
  rcases hr r e with h | ⟨_, h⟩
  · exact .inl (by omega)
  · exact .inr h
theorem LabX.step {w A B : World} {row : Option Nat} {c : Code} {pre : List (ByteArray × Bool)} (h : LabX w c pre A) (hg : A.grownBy B row) (hr : ∀ r, row = some r → w.heap.size + 3 ≤ r) : LabX w c pre B := by
  obtain ⟨hc, c2, c3, ht, hB⟩ := h
  exact ⟨hc, box_next c2 hg (fun r e => by have := hr r e; omega), box_next c3 hg (fun r e => by have := hr r e; omega), ht, below_next hB hg (fun r e => by have := hr r e; omega)⟩
theorem LabI.own (w : World) {b : Nat} (hb : w.heap.size + 4 ≤ b) : OwnFrom b (LabI w) := fun pre A B row h hg hr => h.step hg (fun r e => .inr ⟨Nat.le_trans hb (hr r e).1, (hr r e).2⟩)
theorem LabI.box (w : World) : AbidesBox (w.heap.size + 3) (LabI w) := fun pre A B row h hg hr => h.step hg (fun r e => .inl (by rcases hr with h | h <;> rw [h] at e <;> cases e; rfl))
theorem LabX.own (w : World) {b : Nat} (hb : w.heap.size + 4 ≤ b) (c : Code) : OwnFrom b (LabX w c) := fun pre A B row h hg hr => h.step hg (fun r e => by have := (hr r e).1; omega)
theorem LabX.box (w : World) (c : Code) : AbidesBox (w.heap.size + 3) (LabX w c) := fun pre A B row h hg hr => h.step hg (fun r e => by rcases hr with h | h <;> rw [h] at e <;> cases e; omega)

theorem box_put {W : World} {b t D : Nat} {v : Value} {o : Obj} (h : Boxed W b t v) (hD : W.heap[D]? = some o) (ho : o.isCells = false) (o' : Obj) : Boxed (W.putObj D o') b t v :=
  h.kept (grownBy_putObj' W D o') (fun e => by cases e; rw [show W.heap[_]? = _ from h] at hD; cases hD; cases ho)
theorem below_put {w W : World} {D : Nat} (h : Below w.heap.size w W) (hD : w.heap.size ≤ D) (o' : Obj) : Below w.heap.size w (W.putObj D o') := h.grown (grownBy_putObj' W D o') h.size (fun k e => by cases e; exact hD)
theorem heap_set {W : World} {D : Nat} {o : Obj} (h : W.heap[D]? = some o) (ho : o.isCells = false) (a : Addr) (v : Value) : (W.setCell a v).heap[D]? = some o := (KeepsOthers.setCell W a v).same D o h ho
theorem labels_out {W : World} {b b' D : Nat} {v : Value} {n : Int} (tmps : Array Value) (h : Boxed W b 30 v) (h' : Boxed W b' 36 (.int .i64 n)) (hv : ∃ A m c, v = .slice A m c) (hD : W.heap[D]? = some (.deferred (some []))) (ht : tmps.getD 2 undef = .pointer (some ⟨b, 0, none⟩)) (ht' : tmps.getD 3 undef = .pointer (some ⟨b', 0, none⟩)) :
    (results Try.f99 tmps).run Try.prog (W.putObj D (.deferred none)) = .ok (.tuple #[v, .int .i64 n]) (W.putObj D (.deferred none)) := by
  obtain ⟨A, m, c, rfl⟩ := hv
  have c1 := (box_put h hD rfl (.deferred none)).cell
  have c2 := (box_put h' hD rfl (.deferred none)).cell
  have t1 : tmps[2]?.getD undef = .pointer (some ⟨b, 0, none⟩) := by simpa using ht
  have t2 : tmps[3]?.getD undef = .pointer (some ⟨b', 0, none⟩) := by simpa using ht'
  simp [results, Try.results99, t1, t2, asAddr, go_sem, c1, c2]

theorem string_row {W : World} {base base' e : Nat} {v : Value} {xs : List ByteArray} (h : W.ownsRow base e 1 v xs.length (encs Value.string xs)) (hb : base' ≤ base) : Kd.R Kd.string e W base' (fun _ => True) v xs :=
  ⟨fun _ _ => trivial, _, own_weaken h hb, Kd.reps_scalar xs⟩

/-- The round's append and store, in one. -/
theorem labels_round {w W w1 : World} {v v' : Value} {m : Nat} {xs ys : List Value} {tmp : Obj} (c2 : Boxed W w.heap.size 30 (.slice none 0 0)) (c3 : Boxed W (w.heap.size + 1) 36 (.int .i64 0)) (c4 : Boxed W (w.heap.size + 2) 30 v)
    (hrow : W.ownsRow (w.heap.size + 4) 9 1 v m xs) (hB : Below w.heap.size w W) (hWsz : w.heap.size + 4 ≤ W.heap.size) (hgrow : (W.alloc tmp).grownBy w1 v.ownBlock) {m' : Nat} (hown' : w1.ownsRow (w.heap.size + 4) 9 1 v' m' ys) :
    w1.cell? ⟨w.heap.size + 2, 0, none⟩ = some v ∧ w1.frozen? ⟨w.heap.size + 2, 0, none⟩ = false ∧ Hid (KeepsOthers W (w1.setCell ⟨w.heap.size + 1 + 1, 0, none⟩ v') ∧ KeepsBox (w.heap.size + 3) W (w1.setCell ⟨w.heap.size + 1 + 1, 0, none⟩ v') ∧
      Boxed (w1.setCell ⟨w.heap.size + 1 + 1, 0, none⟩ v') w.heap.size 30 (.slice none 0 0) ∧ Boxed (w1.setCell ⟨w.heap.size + 1 + 1, 0, none⟩ v') (w.heap.size + 1) 36 (.int .i64 0) ∧ Boxed (w1.setCell ⟨w.heap.size + 1 + 1, 0, none⟩ v') (w.heap.size + 2) 30 v' ∧
      (w1.setCell ⟨w.heap.size + 1 + 1, 0, none⟩ v').ownsRow (w.heap.size + 4) 9 1 v' m' ys ∧ Below w.heap.size w (w1.setCell ⟨w.heap.size + 1 + 1, 0, none⟩ v')) := by
  have hg : W.grownBy w1 v.ownBlock := World.grownBy.trans (World.grownBy_alloc W _ _) hgrow
  have hb : ∀ k, v.ownBlock = some k → w.heap.size + 4 ≤ k := own_base hrow
  have hne : ∀ b, b < w.heap.size + 4 → some b ≠ v.ownBlock := fun b hb' e => by have := hb b e.symm; omega
  have c4' := c4.kept hg (hne _ (by omega))
  refine ⟨c4'.cell, c4'.frozen, Lib.hid ⟨?_, ?_, ?_, ?_, c4'.set _, ?_, ?_⟩⟩
  · refine (KeepsOthers.of_grownBy hg fun j o ej hj => ?_).trans (KeepsOthers.setCell _ _ _)
    obtain ⟨cells, hc⟩ := own_typed hrow j ej
    rw [hc] at hj; cases hj; rfl
  · refine ⟨Nat.le_trans hg.size (KeepsWalks.setCell w1 _ v').size, (Below.heap_setCell w1 _ v' _ (by simp)).trans ?_⟩
    exact hg.block _ (by omega) (hne _ (by omega))
  · exact (c2.kept hg (hne _ (by omega))).other (by omega) _
  · exact (c3.kept hg (hne _ (by omega))).other (by omega) _
  · exact hown'.kept (grownBy_setCell' w1 _ v') (.inr (fun e => by have := own_base hown' _ e; omega))
  · exact (hB.grown hg hB.size (fun k e => by have := hb k e; omega)).setCell (p := ⟨w.heap.size + 1 + 1, 0, none⟩) (by simp; omega) _

set_option maxRecDepth 100000 in
set_option maxHeartbeats 2000000 in
theorem name_Labels.calls (a0 : ByteArray) (r1 : List ByteArray) (r2 : Int) (w : World) (h : name_Labels.f a0 = some (r1, r2)) :
    Calls Try.prog 99 #[.string a0] w fun e w' => ∃ v0_ : Value, e = .returned (.tuple #[v0_, .int .i64 r2]) ∧ Kd.R Kd.string 9 w' w.heap.size (fun _ => True) v0_ r1 ∧ Below w.heap.size w w' := by
  unfold name_Labels.f at h
  split at h
  case isFalse => cases h
  rename_i hs
  obtain ⟨i0, hi, hz0, hz1, hz2⟩ := info_parts infoS
  refine (callsIn_wide (n := 4)).1 ?_
  refine callsIn_of_wp_marks Try.func99 rfl trivial ?_ rfl
  simp only [Try.ntmps99, List.size_toArray, List.length_cons, List.length_nil, Nat.reduceAdd, Nat.reduceSub, Array.replicate_succ, Array.replicate_zero, List.push_toArray, List.append_toArray, List.nil_append, List.cons_append]
  have H := Lib.hid h
  clear h
  gi_wp2_with (refine ⟨trivial, ?_⟩; gi_at_call 123; refine (callsIn_wide.2 (name_all_calls a0 _)).mono ?_; rintro e w' ⟨rfl, rfl⟩)
  generalize hW0 : ((((w.alloc (Obj.cells #[Value.slice none 0 0] 30)).alloc (Obj.cells #[Value.int IntKind.i64 0] 36)).alloc (Obj.cells #[Value.slice none 0 0] 30)).alloc (Obj.cells #[Value.string a0] 9)) = W0
  have b2 : Boxed W0 w.heap.size 30 (.slice none 0 0) := by rw [← hW0]; exact (((Boxed.new w _ _).alloc _).alloc _).alloc _
  have b3 : Boxed W0 (w.heap.size + 1) 36 (.int .i64 0) := by
    rw [← hW0]; have := Boxed.new (w.alloc (Obj.cells #[Value.slice none 0 0] 30)) 36 (.int .i64 0); rw [World.size_alloc] at this; exact (this.alloc _).alloc _
  have b4 : Boxed W0 (w.heap.size + 2) 30 (.slice none 0 0) := by
    rw [← hW0]; have := Boxed.new ((w.alloc (Obj.cells #[Value.slice none 0 0] 30)).alloc (Obj.cells #[Value.int IntKind.i64 0] 36)) 30 (.slice none 0 0); rw [World.size_alloc, World.size_alloc] at this; exact this.alloc _
  have bg : Boxed W0 (w.heap.size + 3) 9 (.string a0) := by
    rw [← hW0]; have := Boxed.new (((w.alloc (Obj.cells #[Value.slice none 0 0] 30)).alloc (Obj.cells #[Value.int IntKind.i64 0] 36)).alloc (Obj.cells #[Value.slice none 0 0] 30)) 9 (.string a0); rw [World.size_alloc, World.size_alloc, World.size_alloc] at this; exact this
  have hsz : W0.heap.size = w.heap.size + 4 := by rw [← hW0]; simp
  have hB0 : Below w.heap.size w W0 := by rw [← hW0]; exact ((((Below.refl _ w).alloc (Nat.le_refl _) _).alloc (by simp) _).alloc (by simp; omega) _).alloc (by simp; omega) _
  have HW := Lib.hid hW0
  clear hW0
  refine wpIn_rangeFunc_box rfl (by decide) (gf := 140) (lb := #[.pointer (some ⟨w.heap.size + 3, 0, none⟩)]) rfl trivial (enters_of Try.func140 (by kernel_rfl) rfl)
    (g := w.heap.size + 3) (by omega) (name_all1_in 3 (by decide) (w.heap.size + 3) a0 (by omega) W0 bg) (fun _ => rfl)
    (LabI w) (LabX w) (LabI.own w (by omega)) (LabI.box w) (LabX.own w (by omega)) (LabX.box w) ⟨b2, b3, ⟨_, b4, own_nil _ _ _ _⟩, by simp, hB0⟩
    (fun x a' _ => a' = { tmps := #[.string a0, undef, .pointer (some ⟨w.heap.size, 0, none⟩), .pointer (some ⟨w.heap.size + 1, 0, none⟩), .pointer (some ⟨w.heap.size + 1 + 1, 0, none⟩), .string x.1, .bool x.2, .string a0, .func (.func 140) #[] #[.pointer (some ⟨w.heap.size + 1 + 1 + 1, 0, none⟩)], .string x.1, .bool x.2, undef, undef, undef, undef, undef, undef, undef, undef, undef, undef], defers := [] })
    (fun x a' s A B row h _ _ => h) ?assign ?body ?done ?stop
  case assign =>
    intro l pre x W K hi hK
    unfold encsL
    gi_wp2
    exact hK _ _ (KeepsFrom.refl _ _) (KeepsBox.refl _ _) hi rfl
  case body =>
    rintro l pre x a' W hl ⟨rl, hrl⟩ ⟨c2, c3, ⟨v, c4, hrow⟩, htrue, hB⟩ rfl hcan
    have hWsz : w.heap.size + 4 ≤ W.heap.size := by have := (Array.getElem?_eq_some_iff.1 hrl).1; omega
    obtain ⟨s, b⟩ := x
    have hlen : pre.length < a0.size + 1 := by
      have h1 := labs_length a0
      obtain ⟨q, hq⟩ := hcan
      rw [← hq] at h1
      simp at h1
      omega
    have d2 := c2.cell
    have f2 := c2.frozen
    have d3 := c3.cell
    have f3 := c3.frozen
    have d4 := c4.cell
    have f4 := c4.frozen
    dsimp only
    cases b with
    | false =>
      gi_wp2
      exact ⟨((KeepsOthers.setCell _ _ _).trans (KeepsOthers.setCell _ _ _)).from _, rfl, (c2.set _).other (by omega) _, (c3.other (by omega) _).set _, ⟨_, List.mem_append_right _ (List.mem_singleton_self _), rfl⟩,
        (hB.setCell (p := ⟨w.heap.size, 0, none⟩) (Nat.le_refl _) _).setCell (p := ⟨w.heap.size + 1, 0, none⟩) (by simp) _⟩
    | true =>
      gi_wp2_with (gi_at_builtin; refine wpListIn_append_own _ rfl _ _ 30 rfl (w.heap.size + 4) 9 i0 (.string ⟨#[]⟩) 1 16 Try.underlying30 hi hz0 hz1 hz2 rfl (by decide) _ _ _ rfl (hrow.alloc _) ⟨W.heap.size, 0, none⟩ 1 1 [.string s] rfl rfl (cell_one_new _ _ _) (by simp [Value.oneCell']) (by unfold maxLen; omega) (by omega) (by rw [World.size_alloc]; omega) ?_; intro v' w1 hown' hgrow _; obtain ⟨g', cap', rfl⟩ := ownsRow_succ hown'; obtain ⟨hc1, hf1, HR⟩ := labels_round c2 c3 c4 hrow hB hWsz hgrow hown')
      obtain ⟨k1, k2, k3, k4, k5, k6, k7⟩ := HR.out
      exact ⟨k1.from _, k2, k3, k4, ⟨_, k5, by simpa using k6⟩, fun x hx => by
        rcases List.mem_append.1 hx with h | h
        · exact htrue x h
        · rw [List.mem_singleton.1 h], k7⟩
  case done =>
    rintro D xs W hD rfl ⟨c2, c3, ⟨v, c4, hrow⟩, htrue, hB⟩ hK
    have hall : (labs a0).all (·.2) = true := List.all_eq_true.2 htrue
    obtain ⟨Av, cv, rfl⟩ := own_slice hrow
    have d2 := c2.cell
    have f2 := c2.frozen
    have d3 := c3.cell
    have f3 := c3.frozen
    have d4 := c4.cell
    have f4 := c4.frozen
    have h := H.out
    rw [if_pos hall] at h
    clear H
    by_cases hgt : (a0.size : Int) > 255
    · rw [if_pos hgt] at h
      cases h
      gi_wp2
      refine ⟨by simp, .inl ⟨_, _, rfl, run_takeDeferred (heap_set (heap_set hK rfl _ _) rfl _ _), ?_⟩⟩
      exact ⟨_, labels_out _ ((c2.set _).other (by omega) _) ((c3.other (by omega) _).set _) ⟨_, _, _, rfl⟩ (heap_set (heap_set hK rfl _ _) rfl _ _) rfl rfl, _, rfl, Kd.R_nil _ _ _ _ _,
        below_put ((hB.setCell (p := ⟨w.heap.size, 0, none⟩) (Nat.le_refl _) _).setCell (p := ⟨w.heap.size + 1, 0, none⟩) (by simp) _) (by omega) _⟩
    · rw [if_neg hgt] at h
      cases h
      have hl : ((labs a0).map fun x => Value.string x.1) = encs Value.string ((labs a0).map (·.1)) := by rw [encs, List.map_map]; rfl
      have hne : ∀ b, b < w.heap.size + 4 → some b ≠ (Value.slice Av (labs a0).length cv).ownBlock := fun b hb e => by have := own_base hrow b e.symm; omega
      have HO : (((W.setCell ⟨w.heap.size, 0, none⟩ (.slice Av (labs a0).length cv)).setCell ⟨w.heap.size + 1, 0, none⟩ (.int .i64 0)).putObj D (.deferred none)).ownsRow (w.heap.size + 4) 9 1 (.slice Av (labs a0).length cv) (labs a0).length ((labs a0).map fun x => Value.string x.1) :=
        ownsRow_putObj (own_setCell (p := ⟨w.heap.size + 1, 0, none⟩) (own_setCell (p := ⟨w.heap.size, 0, none⟩) hrow (hne w.heap.size (by omega)) _) (hne (w.heap.size + 1) (by omega)) _) _ (heap_set (heap_set hK rfl _ _) rfl _ _) rfl
      rw [hl] at HO
      have HO' := Lib.hid (string_row (base' := w.heap.size) (by rw [List.length_map]; exact HO) (by omega))
      clear HO hl hne
      gi_wp2
      refine ⟨by simp, .inl ⟨_, _, rfl, run_takeDeferred (heap_set (heap_set hK rfl _ _) rfl _ _), ?_⟩⟩
      exact ⟨_, labels_out _ ((c2.set _).other (by omega) _) ((c3.other (by omega) _).set _) ⟨_, _, _, rfl⟩ (heap_set (heap_set hK rfl _ _) rfl _ _) rfl rfl, _, rfl, HO'.out,
        below_put ((hB.setCell (p := ⟨w.heap.size, 0, none⟩) (Nat.le_refl _) _).setCell (p := ⟨w.heap.size + 1, 0, none⟩) (by simp) _) (by omega) _⟩
  case stop =>
    rintro D c pre W hD hpre ⟨rfl, c2, c3, hfalse, hB⟩ hK
    have hall : ¬ (labs a0).all (·.2) = true := fun h => by
      obtain ⟨x, hx, hf⟩ := hfalse
      have := List.all_eq_true.1 h x (hpre.subset hx)
      rw [hf] at this
      cases this
    gi_wp2
    refine ⟨by simp, .inl ⟨_, _, rfl, run_takeDeferred hK, ?_⟩⟩
    have h := H.out
    rw [if_neg hall] at h
    cases h
    exact ⟨_, labels_out _ c2 c3 ⟨_, _, _, rfl⟩ hK rfl rfl, _, rfl, Kd.R_nil _ _ _ _ _, below_put hB (by omega) _⟩
#print axioms name_Labels.calls
end Go.Proofs.Ytdkecfjeiookdaa.PA
-- printed out of the translation by the kit's print (wip/tools/given.py), and cut by wip/tools/trim.py: Lean checks it.
namespace Go.Proofs.Ytdkecfjeiookdaa.PA
open Go.RowKit Go.Proofs.YtdkecfjeiookdaaW.PrintWords Go.Proofs.YtdkecfjeiookdaaW.PrintLast Go.Proofs.YtdkecfjeiookdaaW.PrintMore
attribute [local go_sem] max2_int min2_int max_two min_two max_three min_three max_four min_four   -- for this text's walks alone
set_option linter.unusedVariables false
set_option linter.unusedSimpArgs false

/-! ### name_Check: function 64 -/
def name_Check.f (a0 : ByteArray) : Option (Int) := (name_Labels.f a0).bind fun bt401 => (some bt401.2)
set_option maxHeartbeats 8000000 in
set_option maxRecDepth 100000 in
theorem name_Check.calls (a0 : ByteArray) (r : Int) (w : World) (h : name_Check.f a0 = some r) :
    Calls Try.prog 64 #[.string a0] w fun e w' => e = .returned (.int .i64 r) ∧ Below w.heap.size w w' := by
  have HB := Aside0.mk (Below.refl w.heap.size w)
  have H : ((name_Labels.f a0).bind fun bt401 => (some bt401.2)) = some r := h
  clear h
  replace H := Option.bind_eq_some_iff.mp H
  obtain ⟨⟨t401, t402⟩, A20, H⟩ := H
  replace H : (some t402) = some r := H
  have A2 := Aside0.mk A20
  clear A20
  obtain rfl := Option.some.inj H
  go_enter Try.func64, Try.ntmps64
  go_wp2_with (first | ((with_reducible refine gate_callee (f := 99) rfl ?_); refine goesL_ (some 7) rfl rfl Try.func99 (by kernel_rfl) rfl #[.string a0] rfl (by (try simp only [List.map_toArray, List.map_cons, List.map_nil]); first | done | rfl | (simp only [List.length_drop, List.length_take]; rfl)) ?_; (with_reducible refine (name_Labels.calls a0 t401 t402 _ A2.out).mono ?_); rintro e w3 ⟨v403, rfl, ho0, hb⟩; refine ⟨_, rfl, ?_⟩; have n0_ := Aside0.mk (Kd.R_lower ho0 (below_size (by repeat (first | (with_reducible first | exact HB.out | apply below_alloc | apply pw_below_drewN | apply below_drew1) | exact HB.out)))); have n1_ := Aside0.mk (below_step (by repeat (first | (with_reducible first | exact HB.out | apply below_alloc | apply pw_below_drewN | apply below_drew1) | exact HB.out)) hb); clear HB; have HO404 := n0_; have HB := n1_; clear n0_ n1_; (try clear hb); (try clear hb2); (try clear hk); (try clear hi); (try clear ho0)))
  go_ret
  exact ⟨by first | rfl | (simp [errW_none, errW_some] <;> rfl) | (simp [*, errW_none, errW_some] <;> rfl), by repeat (first | (with_reducible first | exact HB.out | apply below_alloc | apply pw_below_drewN | apply below_drew1) | exact HB.out)⟩

end Go.Proofs.Ytdkecfjeiookdaa.PA
