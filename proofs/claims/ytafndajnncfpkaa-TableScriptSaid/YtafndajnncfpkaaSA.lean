/- The document's table in memory (ostiaryref20): New, At, Idle, All. -/
import Derived.Test.YtafndajnncfpkaaTX
import Derived.Test.YtafndajnncfpkaaWMore
namespace Go.Proofs.Ytafndajnncfpkaa.Sa
open Go Go.RowKit Go.Maps Go.Sort Go.Shelf Go.Proofs.YtafndajnncfpkaaW.PrintWords Go.Proofs.YtafndajnncfpkaaW.PrintLast Go.Proofs.YtafndajnncfpkaaW.PrintMore Go.Proofs.Ytafndajnncfpkaa.Mp Go.Proofs.Ytafndajnncfpkaa.Tm Go.Proofs.Ytafndajnncfpkaa.Tb Go.Proofs.Ytafndajnncfpkaa.Tc Go.Proofs.Ytafndajnncfpkaa.Ta Go.Proofs.Ytafndajnncfpkaa.Ti Go.Proofs.Ytafndajnncfpkaa.Tg Go.Proofs.Ytafndajnncfpkaa.Tt Go.Proofs.Ytafndajnncfpkaa.Ts Go.Proofs.Ytafndajnncfpkaa.Tz Go.Proofs.Ytafndajnncfpkaa.Tq Go.Proofs.Ytafndajnncfpkaa.Tv Go.Proofs.Ytafndajnncfpkaa.Tx
set_option linter.unusedVariables false
set_option linter.unusedSimpArgs false
/-- A client, as a kind. -/
def kCl : Kd Cl := Kd.pair (Kd.int .i64) (Kd.pair (Kd.int .i64) Kd.bool)
theorem kCl_open {w : World} {base : Nat} {ok : Nat → Prop} {x : Cl} {c : List Value} (h : kCl.M w base ok x c) : c = [.int .i64 x.1, .int .i64 x.2.1, .bool x.2.2] := by
  obtain ⟨c1, c2, rfl, h1, c3, c4, rfl, h2, h3⟩ := h
  obtain rfl : c1 = _ := h1
  obtain rfl : c3 = _ := h2
  obtain rfl : c4 = _ := h3
  rfl
theorem kCl_mk (w : World) (base : Nat) (ok : Nat → Prop) (x : Cl) : kCl.M w base ok x [.int .i64 x.1, .int .i64 x.2.1, .bool x.2.2] := ⟨[.int .i64 x.1], _, rfl, rfl, [.int .i64 x.2.1], _, rfl, rfl, rfl⟩
/-- The document's table. -/
def RefAt (W : World) (R base : Nat) (most : Int) (G : List Cl) : Prop := ∃ A c, W.heap[R]? = some (.cells #[.int .i64 most, .slice A G.length c] 44 (0, 0)) ∧ base ≤ R ∧ Kd.R kCl 47 W base (fun _ => True) (.slice A G.length c) G
theorem RefAt.lt {W : World} {R base : Nat} {most : Int} {G : List Cl} (h : RefAt W R base most G) : R < W.heap.size := by
  obtain ⟨A, c, h1, _⟩ := h
  exact (Array.getElem?_eq_some_iff.1 h1).1
theorem RefAt.below {W W1 : World} {R base : Nat} {most : Int} {G : List Cl} (h : RefAt W R base most G) (hB : Below W.heap.size W W1) : RefAt W1 R base most G := by
  obtain ⟨A, c, h1, h2, h3⟩ := h
  exact ⟨A, c, (hB.block R (Array.getElem?_eq_some_iff.1 h1).1).trans h1, h2, Kd.R_below h3 hB⟩
/-- Where a map is written, the document's table stays. -/
theorem RefAt.keptM {W W1 : World} {R base b : Nat} {most : Int} {G : List Cl} (h : RefAt W R base most G) (hb : ∃ es c, W.heap[b]? = some (.map es c)) (hg : W.grownBy W1 (some b)) : RefAt W1 R base most G := by
  obtain ⟨A, c, h1, h2, h3⟩ := h
  obtain ⟨es, c', hb⟩ := hb
  have hne : R ≠ b := fun e => by rw [e, hb] at h1; cases h1
  refine ⟨A, c, (hg.block R (Array.getElem?_eq_some_iff.1 h1).1 (by simpa using hne)).trans h1, h2, ?_⟩
  refine Kd.R_mono (Kd.R_grown (Kd.R_bound h3) hg (fun k hk e => ?_)) (fun _ _ => trivial)
  obtain ⟨_, _, _, q, _, cells, hc⟩ := hk
  have : k = b := by simpa using e
  rw [this, hb] at hc
  cases hc
theorem RefAt.drewN {W : World} {R base : Nat} {most : Int} {G : List Cl} (h : RefAt W R base most G) (n : Nat) : RefAt (W.drewN n) R base most G := h.below ⟨rfl, rfl, rfl, Nat.le_refl _, fun _ _ => rfl⟩
/-- What a method of the document's table leaves alone: all but one block, which is the table's own or a row of clients. -/
def Moved (W W1 : World) (R base : Nat) : Prop := ∃ row, W.grownBy W1 (some row) ∧ base ≤ row ∧ (row = R ∨ ∃ cells, W.heap[row]? = some (.cells cells 47 (0, 0)))
theorem Moved.same (W : World) {R base : Nat} (h : base ≤ R) : Moved W W R base := ⟨R, same_grownBy W _, h, Or.inl rfl⟩
theorem Moved.drewN (W : World) {R base : Nat} (h : base ≤ R) (n : Nat) : Moved W (W.drewN n) R base := ⟨R, grown_drewN W n _, h, Or.inl rfl⟩
/-- The cells of a row of clients. -/
theorem cl_at {W : World} {base : Nat} {ok : Nat → Prop} {A : Option Addr} {n c : Nat} {G : List Cl} (h : Kd.R kCl 47 W base ok (.slice A n c) G) (i : Nat) (hi : i < G.length) : ∃ g, A = some ⟨g, 0, none⟩ ∧ W.cell? ⟨g, i * 3, none⟩ = some (.int .i64 G[i].1) ∧ W.cell? ⟨g, i * 3 + 1, none⟩ = some (.int .i64 G[i].2.1) ∧ W.cell? ⟨g, i * 3 + 2, none⟩ = some (.bool G[i].2.2) ∧ (∀ j, W.frozen? ⟨g, j, none⟩ = false) := by
  obtain ⟨g, cap, hv, _, _, cells, hc⟩ := Kd.R_form h (by omega)
  injection hv with e1 e2 e3
  subst e1
  obtain ⟨c', hcl, hM, hcc, _⟩ := Kd.R_elem h (0, 0, false) (i : Int) (by omega) (by have := (Kd.R_reads' h).1; omega)
  have hx : G.getD (i : Int).toNat (0, 0, false) = G[i] := by
    rw [List.getD_eq_getElem?_getD, Int.toNat_natCast, List.getElem?_eq_getElem hi]
    rfl
  rw [hx] at hM
  obtain rfl := kCl_open hM
  rw [Int.toNat_natCast] at hcc
  exact ⟨g, rfl, hcc 0 _ rfl, hcc 1 _ rfl, hcc 2 _ rfl, fun j => blk_frozen hc j⟩
theorem refnew_ok (most : Int) (w : World) (base : Nat) (h1 : 1 ≤ most) (h2 : most ≤ 1024) (hb : base ≤ w.heap.size) : Calls Try.prog 14 #[.int .i64 most] w fun e w' => ∃ R : Nat, e = .returned (.tuple #[.pointer (some ⟨R, 0, none⟩), .int .i64 0]) ∧ RefAt w' R base most [] ∧ Below w.heap.size w w' := by
  have d1 : decide (most < 1) = false := decide_eq_false (by omega)
  have d2 : decide (1024 < most) = false := decide_eq_false (by omega)
  go_enter Try.func14, Try.ntmps14
  go_wp2
  go_ret2
  exact ⟨_, rfl, ⟨none, 0, World.alloc_heap_new w _, hb, Kd.R_nil _ _ _ _ _⟩, (Below.refl _ _).alloc (Nat.le_refl _) _⟩
theorem refnew_bad (most : Int) (w : World) (h : most < 1 ∨ 1024 < most) : Calls Try.prog 14 #[.int .i64 most] w fun e w' => e = .returned (.tuple #[.pointer none, .int .i64 2]) ∧ w = w' := by
  by_cases h1 : most < 1
  · have d1 : decide (most < 1) = true := decide_eq_true h1
    go_enter Try.func14, Try.ntmps14
    go_wp2
    go_ret2
    exact ⟨rfl, rfl⟩
  · have d1 : decide (most < 1) = false := decide_eq_false h1
    have d2 : decide (1024 < most) = true := decide_eq_true (by omega)
    go_enter Try.func14, Try.ntmps14
    go_wp2
    go_ret2
    exact ⟨rfl, rfl⟩
/-- Where a client stands. -/
def AtP (G : List Cl) (k r : Int) : Prop := (∃ i, ∃ h : i < G.length, r = (i : Int) ∧ G[i].1 = k) ∨ (r = -1 ∧ ∀ c ∈ G, c.1 ≠ k)
set_option maxRecDepth 100000 in
set_option maxHeartbeats 1000000 in
theorem refat_c (R base : Nat) (most : Int) (G : List Cl) (k : Int) (w : World) (h : RefAt w R base most G) (hlen : G.length ≤ 100000) : Calls Try.prog 18 #[.pointer (some ⟨R, 0, none⟩), .int .i64 k] w fun e w' => (∃ r, e = .returned (.int .i64 r) ∧ AtP G k r) ∧ w = w' := by
  obtain ⟨A, c, hR, hbase, hrow⟩ := h
  have HR := Lib.hid hrow
  have c1 : w.cell? ⟨R, 1, none⟩ = some (.slice A G.length c) := by simp [World.cell?, hR]
  clear hrow hR
  go_enter Try.func18, Try.ntmps18
  go_wp2
  go_loopg [5] G.length (fun kq v wr => ∃ i : Nat, i + kq = G.length ∧ v = .int .i64 (i : Int) ∧ w = wr ∧ RowKit.Hid (∀ j, (h : j < G.length) → j < i → G[j].1 ≠ k))
  case atStart => exact ⟨0, by omega, rfl, rfl, Lib.hid (fun j _ h => absurd h (by omega))⟩
  case round =>
    obtain ⟨i, hi, rfl, rfl, HS⟩ := hrel
    by_cases hiq : i < G.length
    · obtain ⟨q, rfl⟩ : ∃ q, gk = q + 1 := ⟨gk - 1, by omega⟩
      have d1 : decide ((i : Int) < (G.length : Int)) = true := decide_eq_true (by omega)
      have p1 : (0 ≤ (i : Int)) = True := eq_true (by omega)
      have q1 : ((i : Int) < (G.length : Int)) = True := eq_true (by omega)
      obtain ⟨g, e1, x0, x1, x2, _⟩ := cl_at HR.out i hiq
      cases e1
      by_cases hx : G[i].1 = k
      · have dx : (G[i].1 == k) = true := beq_iff_eq.2 hx
        have HX := Lib.hid hx
        have HP := Lib.hid (show AtP G k (i : Int) from Or.inl ⟨i, hiq, rfl, hx⟩)
        clear hx
        generalize G[i].1 = y at *
        go_wp2
        go_ret
        exact ⟨⟨_, rfl, HP.out⟩, rfl⟩
      · have dx : (G[i].1 == k) = false := beq_eq_false_iff_ne.2 hx
        have HX := Lib.hid (show ∀ j, (h : j < G.length) → j < i + 1 → G[j].1 ≠ k from fun j h hj => by
          by_cases hji : j = i
          · subst hji
            exact hx
          · exact HS.out j h (by omega))
        clear hx
        generalize G[i].1 = y at *
        go_wp2
        go_roundg q
        case measure => omega
        case rel => exact ⟨i + 1, by omega, congrArg (Value.int .i64) (by first | (unfold wrap64; omega) | omega), rfl, HX⟩
    · have d1 : decide ((i : Int) < (G.length : Int)) = false := decide_eq_false (by omega)
      go_wp2
      go_ret
      refine ⟨⟨_, rfl, Or.inr ⟨rfl, fun c hc => ?_⟩⟩, rfl⟩
      obtain ⟨j, hj, rfl⟩ := List.mem_iff_getElem.1 hc
      exact HS.out j hj (by omega)
/-- One element is written: by its number. -/
theorem set_map {G : List Cl} (hn : (G.map (·.1)).Nodup) (i : Nat) (hi : i < G.length) (f : Cl → Cl) : G.set i (f G[i]) = G.map fun c => if c.1 = G[i].1 then f c else c := by
  refine List.ext_getElem (by simp) fun j h1 h2 => ?_
  have hj : j < G.length := by simpa using h2
  rw [List.getElem_set, List.getElem_map]
  by_cases e : i = j
  · subst e
    rw [if_pos rfl, if_pos rfl]
  · have hp := List.pairwise_iff_getElem.1 hn
    have : G[j].1 ≠ G[i].1 := fun e2 => by
      rcases Nat.lt_or_gt_of_ne e with h | h
      · exact hp i j (by simpa using hi) (by simpa using hj) h (by simpa using e2.symm)
      · exact hp j i (by simpa using hj) (by simpa using hi) h (by simpa using e2)
    rw [if_neg e, if_neg this]
theorem setCell_seg (w : World) (g o : Nat) (u : Value) : w.setCells g o [u] = w.setCell ⟨g, o, none⟩ u := by
  simp [World.setCells]
end Go.Proofs.Ytafndajnncfpkaa.Sa
