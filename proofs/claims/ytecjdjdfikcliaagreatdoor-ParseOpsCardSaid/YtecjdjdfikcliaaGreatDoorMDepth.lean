/- Several small texts of this claim in one. -/
import Derived.RangeFuncNested
import Derived.RangeFuncBound
import Derived.RangeFuncLeaves
import Derived.Shelf.Abstract
import Derived.Shelf.RegionOpen
import Derived.WalkKit
import Derived.OwnWalkIn
import Derived.TacticsInMore
import Derived.LoopNIn
import Derived.LoopIn
import Derived.Test.YtecjdjdfikcliaaGreatDoorBase
import Derived.Test.YtecjdjdfikcliaaGreatDoorMRead
section
/-
  A range over a function whose iterator keeps a state of its own in cells: what the iterator does is walked at the caller's own invariant.
-/
namespace Go.Proofs.YtecjdjdfikcliaaGreatDoor
open Go.RowKit

/-- All but the blocks X is as it was; there may be new blocks. -/
structure But (X : Nat → Prop) (W W' : World) : Prop where
  os : W'.os = W.os
  tape : W'.tape = W.tape
  output : W'.output = W.output
  size : W.heap.size ≤ W'.heap.size
  block : ∀ k, k < W.heap.size → ¬ X k → W'.heap[k]? = W.heap[k]?

theorem But.putObj {X : Nat → Prop} (W : World) (l : Nat) (o : Obj) (h : X l) : But X W (W.putObj l o) :=
  ⟨rfl, rfl, rfl, by simp [World.putObj], fun k _ hk => World.putObj_heap_other (fun e => hk (e ▸ h))⟩
theorem But.alloc {X : Nat → Prop} (W : World) (o : Obj) : But X W (W.alloc o) :=
  ⟨rfl, rfl, rfl, by rw [World.size_alloc]; omega, fun k hk _ => Below.heap_alloc W o k hk⟩
theorem But.trans {X : Nat → Prop} {A B C : World} (h : But X A B) (k : But X B C) : But X A C :=
  ⟨k.os.trans h.os, k.tape.trans h.tape, k.output.trans h.output, Nat.le_trans h.size k.size, fun i hi hx => (k.block i (Nat.lt_of_lt_of_le hi h.size) hx).trans (h.block i hi hx)⟩

/-- The loop's two records stand. -/
def RecKept (b : Nat) (W W' : World) : Prop := W'.heap[b]? = W.heap[b]? ∧ W'.heap[b + 1]? = W.heap[b + 1]?

/-- The loop's record and the block of its rounds' deferred calls lie. -/
def Recs (b : Nat) (W : World) : Prop := (∃ r, W.heap[b + 1]? = some (.loop r)) ∧ W.heap[b]? = some (.deferred (some []))
theorem Recs.lt {b : Nat} {W : World} (h : Recs b W) : b + 2 ≤ W.heap.size := by
  obtain ⟨⟨r, hr⟩, _⟩ := h
  have := (Array.getElem?_eq_some_iff.1 hr).1
  omega
/-- What is no cells is turned: every row of cells stands. -/
def CellsKept (W W' : World) : Prop := W.heap.size ≤ W'.heap.size ∧ ∀ (j : Nat) c t f, W.heap[j]? = some (Obj.cells c t f) → W'.heap[j]? = some (Obj.cells c t f)
theorem CellsKept.alloc (W : World) (o : Obj) : CellsKept W (W.alloc o) :=
  ⟨by rw [World.size_alloc]; omega, fun j c t f h => (Below.heap_alloc W o j (Array.getElem?_eq_some_iff.1 h).1).trans h⟩
theorem CellsKept.put {b : Nat} {W : World} (h : Recs b W) (k : Nat) (hk : k = b ∨ k = b + 1) (o : Obj) : CellsKept W (W.putObj k o) := by
  refine ⟨by simp [World.putObj], fun j c t f hj => (World.putObj_heap_other ?_).trans hj⟩
  rintro rfl
  obtain ⟨⟨r, hr⟩, hd⟩ := h
  rcases hk with rfl | rfl
  · rw [hd] at hj; cases hj
  · rw [hr] at hj; cases hj

set_option maxHeartbeats 1000000 in
theorem wp_range_own {P : Program} {g : Operand} {p : Tmp} {assign body : Code} {Q : Exit → Act → World → Prop} {a : Act} {w : World} {gf : Nat} {lb : Array Value} {n : Nat}
    (hg : a.eval g = .func (.func gf) #[] lb) (eg : ∀ args w, (callFunc gf args).run P w = .ok (.enter gf args) w)
    (I : Nat → World → Prop) (R : Nat → Value → Prop) (m : Nat) (Ax : Nat → Value → Act → World → Prop) (Kb : World → World → Prop) (Fin : World → Prop)
    (hKt : ∀ A B C, Kb A B → Kb B C → Kb A C) (hKc : ∀ A B, CellsKept A B → Kb A B) (hFin : ∀ A B, Fin A → CellsKept A B → Fin B)
    (hI : ∀ i W W', I i W → But (fun k => k = w.heap.size ∨ k = w.heap.size + 1) W W' → CellsKept W W' → I i W')
    (hA : ∀ i v a' W W', Ax i v a' W → But (fun k => k = w.heap.size ∨ k = w.heap.size + 1) W W' → CellsKept W W' → Ax i v a' W')
    (h0 : I 0 w)
    (hassign : ∀ (n : Nat) (i : Nat) (v : Value) (W : World) (K : Act → World → Prop), I i W → R i v → Recs w.heap.size W → (∀ a' W', Ax i v a' W' → RecKept w.heap.size W W' → Kb W W' → K a' W') →
      assign.wpIn (Fence.wide.inRound (w.heap.size + 1)) n P (Exit.then K (fun _ _ _ => False)) { tmps := a.tmps.setIfInBounds p v, defers := [] } W)
    (hbody : ∀ (n : Nat) (i : Nat) (v : Value) (a' : Act) (W : World), i < m → Ax i v a' W → R i v → Recs w.heap.size W →
      body.wpIn (Fence.wide.inRound (w.heap.size + 1)) n P (Exit.then (fun _ W' => I (i + 1) W' ∧ RecKept w.heap.size W W' ∧ Kb W W') (fun _ _ _ => False)) a' W)
    (hiter : ∀ (J : Nat → World → Prop), (∀ i W, J i W → I i W ∧ Recs w.heap.size W) → (∀ i W W', J i W → I i W' → RecKept w.heap.size W W' → J i W') →
      (∀ n i v W, i < m → J i W → R i v → YieldAt Fence.wide n P (w.heap.size + 1) #[v] W fun e W' => e = .returned (.bool true) ∧ J (i + 1) W' ∧ Kb W W') →
      ∀ n W1, J 0 W1 → Kb w W1 → But (fun _ => False) w W1 → CallsIn Fence.wide n P gf (#[.func (.yield (w.heap.size + 1)) #[] #[]] ++ lb) W1 fun e W' => (∃ v, e = .returned v) ∧ J m W' ∧ Fin W')
    (hdone : ∀ W, I m W → Fin W → W.heap[w.heap.size]? = some (.deferred (some [])) → Q .normal { a with defers := { target := .collected w.heap.size, args := #[] } :: a.defers } W) :
    (Code.rangeFunc g #[p] assign body).wpIn Fence.wide n P Q a w := by
  refine wpIn_rangeFunc ?_
  intro fn hfn
  obtain ⟨rec, hrec⟩ : ∃ rec : LoopState → Option Code → Loop, rec = fun st pe => { state := st, pending := pe, fn := fn, tmps := a.tmps, params := #[p], assign := assign, body := body, defers := w.heap.size } := ⟨_, rfl⟩
  obtain ⟨W1, hW1⟩ : ∃ W1, (w.alloc (.deferred (some []))).alloc (.loop (rec .ready none)) = W1 := ⟨_, rfl⟩
  have bX : ∀ X, But X w W1 := fun X => by rw [← hW1]; exact (But.alloc w _).trans (But.alloc _ _)
  have cX : CellsKept w W1 := by
    rw [← hW1]
    exact ⟨by rw [World.size_alloc, World.size_alloc]; omega, fun j c t f h => (CellsKept.alloc _ _).2 j c t f ((CellsKept.alloc w _).2 j c t f h)⟩
  have hL1 : W1.heap[w.heap.size + 1]? = some (.loop (rec .ready none)) := by
    rw [← hW1]
    have := (MapKept.heap_alloc (w.alloc (.deferred (some []))) (.loop (rec .ready none))).1
    rwa [World.size_alloc] at this
  have hK1 : W1.heap[w.heap.size]? = some (.deferred (some [])) := by
    rw [← hW1]
    exact (Below.heap_alloc _ _ _ (by rw [World.size_alloc]; omega)).trans (MapKept.heap_alloc w _).1
  refine ⟨w.heap.size + 1, [{ target := .collected w.heap.size, args := #[] }], W1, { target := .fn (.func gf) lb, args := #[.func (.yield (w.heap.size + 1)) #[] #[]] }, W1, gf,
    #[.func (.yield (w.heap.size + 1)) #[] #[]] ++ lb, W1, ?_, ?_, fun _ _ => trivial, ?_, fun h => absurd h (by simp [Fence.wide]), ?_⟩
  · rw [← hW1, hrec]; exact run_enterLoop_outer _ _ _ _ _
  · simp only [resolve, hg]
    simp [go_sem]
  · simp [invoke, go_sem, eg]
  refine (hiter (fun i W => I i W ∧ W.heap[w.heap.size + 1]? = some (.loop (rec .ready none)) ∧ W.heap[w.heap.size]? = some (.deferred (some [])))
    (fun i W h => ⟨h.1, ⟨_, h.2.1⟩, h.2.2⟩) (fun i W W' h hi hk => ⟨hi, hk.2.trans h.2.1, hk.1.trans h.2.2⟩) ?_ (n - 1) _ ⟨hI 0 _ _ h0 (bX _) cX, hL1, hK1⟩ (hKc _ _ cX) (bX _)).mono ?_
  · rintro n i v W hi ⟨hIi, hl, hk⟩ hR
    have hlt : w.heap.size + 1 < W.heap.size := (Array.getElem?_eq_some_iff.1 hl).1
    have hy : (Instr.yield (w.heap.size + 1) #[v]).run P W = .ok (.round (w.heap.size + 1) fn (a.tmps.setIfInBounds p v) assign body) W := by
      have := run_yield (P := P) (args := #[v]) hl (by rw [hrec]; rfl)
      rw [hrec] at this
      simpa using this
    refine ⟨fn, _, assign, body, hy, roundIn_of_wpIn hfn ?_⟩
    refine hassign n i v W _ hIi hR ⟨⟨_, hl⟩, hk⟩ (fun a' W' hax hkk hkb => ?_)
    have hl' := hkk.2.trans hl
    have hk' := hkk.1.trans hk
    have hlt' : w.heap.size + 1 < W'.heap.size := (Array.getElem?_eq_some_iff.1 hl').1
    refine ⟨_, run_beginRound hl' (by rw [hrec]), ?_⟩
    have hl2 : (W'.putObj (w.heap.size + 1) (.loop { rec .ready none with state := .busy })).heap[w.heap.size + 1]? = some (.loop { rec .ready none with state := .busy }) := World.putObj_heap_same hlt'
    have hk2 : (W'.putObj (w.heap.size + 1) (.loop { rec .ready none with state := .busy })).heap[w.heap.size]? = some (.deferred (some [])) := (World.putObj_heap_other (by omega)).trans hk'
    refine wpIn_mono (hbody n i v a' _ hi (hA _ _ _ _ _ hax (But.putObj _ _ _ (.inr rfl)) (CellsKept.put ⟨⟨_, hl'⟩, hk'⟩ _ (.inr rfl) _)) hR ⟨⟨_, hl2⟩, hk2⟩) ?_
    rintro e a3 W3 hp
    cases e with
    | normal =>
      obtain ⟨hi3, hk3, hkb3⟩ := hp
      have hl3 := hk3.2.trans hl2
      have hd3 := hk3.1.trans hk2
      have hlt3 : w.heap.size + 1 < W3.heap.size := (Array.getElem?_eq_some_iff.1 hl3).1
      have hr := run_endRound (P := P) none hl3
      refine ⟨_, _, hr, rfl, ⟨hI _ _ _ hi3 (But.putObj _ _ _ (.inr rfl)) (CellsKept.put ⟨⟨_, hl3⟩, hd3⟩ _ (.inr rfl) _), ?_, (World.putObj_heap_other (by omega)).trans hd3⟩,
        hKt _ _ _ (hKt _ _ _ hkb (hKt _ _ _ (hKc _ _ (CellsKept.put ⟨⟨_, hl'⟩, hk'⟩ _ (.inr rfl) _)) hkb3)) (hKc _ _ (CellsKept.put ⟨⟨_, hl3⟩, hd3⟩ _ (.inr rfl) _))⟩
      rw [World.putObj_heap_same hlt3, hrec]
      rfl
    | ret => exact hp.elim
    | exit id => exact hp.elim
    | goto t => exact hp.elim
    | panic ch => exact hp.elim
    | outgrown => exact hp.elim
  · rintro e W2 ⟨⟨v, rfl⟩, ⟨hi, hl, hk⟩, hF⟩
    have he := run_endLoop (P := P) hl (by rw [hrec]; simp)
    rw [hrec] at he
    exact ⟨none, _, he, hdone _ (hI _ _ _ hi (But.putObj _ _ _ (.inr rfl)) (CellsKept.put ⟨⟨_, hl⟩, hk⟩ _ (.inr rfl) _)) (hFin _ _ hF (CellsKept.put ⟨⟨_, hl⟩, hk⟩ _ (.inr rfl) _)) ((World.putObj_heap_other (by omega)).trans hk)⟩
end Go.Proofs.YtecjdjdfikcliaaGreatDoor
end
section
/-
  A range over a function of two values, whose iterator is walked at the caller's own invariant.
-/
namespace Go.Proofs.YtecjdjdfikcliaaGreatDoor
open Go.RowKit

set_option maxHeartbeats 1000000 in
theorem wp_range_own2 {P : Program} {g : Operand} {p q : Tmp} {assign body : Code} {Q : Exit → Act → World → Prop} {a : Act} {w : World} {gf : Nat} {lb : Array Value} {n : Nat}
    (hg : a.eval g = .func (.func gf) #[] lb) (eg : ∀ args w, (callFunc gf args).run P w = .ok (.enter gf args) w)
    (I : Nat → World → Prop) (R : Nat → Value → Value → Prop) (m : Nat) (Ax : Nat → Value → Value → Act → World → Prop) (Kb : World → World → Prop) (Fin : World → Prop)
    (hKt : ∀ A B C, Kb A B → Kb B C → Kb A C) (hKc : ∀ A B, CellsKept A B → Kb A B) (hFin : ∀ A B, Fin A → CellsKept A B → Fin B)
    (hI : ∀ i W W', I i W → But (fun k => k = w.heap.size ∨ k = w.heap.size + 1) W W' → CellsKept W W' → I i W')
    (hA : ∀ i v u a' W W', Ax i v u a' W → But (fun k => k = w.heap.size ∨ k = w.heap.size + 1) W W' → CellsKept W W' → Ax i v u a' W')
    (h0 : I 0 w)
    (hassign : ∀ (n : Nat) (i : Nat) (v u : Value) (W : World) (K : Act → World → Prop), I i W → R i v u → Recs w.heap.size W → (∀ a' W', Ax i v u a' W' → RecKept w.heap.size W W' → Kb W W' → K a' W') →
      assign.wpIn (Fence.wide.inRound (w.heap.size + 1)) n P (Exit.then K (fun _ _ _ => False)) { tmps := (a.tmps.setIfInBounds p v).setIfInBounds q u, defers := [] } W)
    (hbody : ∀ (n : Nat) (i : Nat) (v u : Value) (a' : Act) (W : World), i < m → Ax i v u a' W → R i v u → Recs w.heap.size W →
      body.wpIn (Fence.wide.inRound (w.heap.size + 1)) n P (Exit.then (fun _ W' => I (i + 1) W' ∧ RecKept w.heap.size W W' ∧ Kb W W') (fun _ _ _ => False)) a' W)
    (hiter : ∀ (J : Nat → World → Prop), (∀ i W, J i W → I i W ∧ Recs w.heap.size W) → (∀ i W W', J i W → I i W' → RecKept w.heap.size W W' → J i W') →
      (∀ n i v u W, i < m → J i W → R i v u → YieldAt Fence.wide n P (w.heap.size + 1) #[v, u] W fun e W' => e = .returned (.bool true) ∧ J (i + 1) W' ∧ Kb W W') →
      ∀ n W1, J 0 W1 → Kb w W1 → But (fun _ => False) w W1 → CallsIn Fence.wide n P gf (#[.func (.yield (w.heap.size + 1)) #[] #[]] ++ lb) W1 fun e W' => (∃ v, e = .returned v) ∧ J m W' ∧ Fin W')
    (hdone : ∀ W, I m W → Fin W → W.heap[w.heap.size]? = some (.deferred (some [])) → Q .normal { a with defers := { target := .collected w.heap.size, args := #[] } :: a.defers } W) :
    (Code.rangeFunc g #[p, q] assign body).wpIn Fence.wide n P Q a w := by
  refine wpIn_rangeFunc ?_
  intro fn hfn
  obtain ⟨rec, hrec⟩ : ∃ rec : LoopState → Option Code → Loop, rec = fun st pe => { state := st, pending := pe, fn := fn, tmps := a.tmps, params := #[p, q], assign := assign, body := body, defers := w.heap.size } := ⟨_, rfl⟩
  obtain ⟨W1, hW1⟩ : ∃ W1, (w.alloc (.deferred (some []))).alloc (.loop (rec .ready none)) = W1 := ⟨_, rfl⟩
  have bX : ∀ X, But X w W1 := fun X => by rw [← hW1]; exact (But.alloc w _).trans (But.alloc _ _)
  have cX : CellsKept w W1 := by
    rw [← hW1]
    exact ⟨by rw [World.size_alloc, World.size_alloc]; omega, fun j c t f h => (CellsKept.alloc _ _).2 j c t f ((CellsKept.alloc w _).2 j c t f h)⟩
  have hL1 : W1.heap[w.heap.size + 1]? = some (.loop (rec .ready none)) := by
    rw [← hW1]
    have := (MapKept.heap_alloc (w.alloc (.deferred (some []))) (.loop (rec .ready none))).1
    rwa [World.size_alloc] at this
  have hK1 : W1.heap[w.heap.size]? = some (.deferred (some [])) := by
    rw [← hW1]
    exact (Below.heap_alloc _ _ _ (by rw [World.size_alloc]; omega)).trans (MapKept.heap_alloc w _).1
  refine ⟨w.heap.size + 1, [{ target := .collected w.heap.size, args := #[] }], W1, { target := .fn (.func gf) lb, args := #[.func (.yield (w.heap.size + 1)) #[] #[]] }, W1, gf,
    #[.func (.yield (w.heap.size + 1)) #[] #[]] ++ lb, W1, ?_, ?_, fun _ _ => trivial, ?_, fun h => absurd h (by simp [Fence.wide]), ?_⟩
  · rw [← hW1, hrec]; exact run_enterLoop_outer _ _ _ _ _
  · simp only [resolve, hg]
    simp [go_sem]
  · simp [invoke, go_sem, eg]
  refine (hiter (fun i W => I i W ∧ W.heap[w.heap.size + 1]? = some (.loop (rec .ready none)) ∧ W.heap[w.heap.size]? = some (.deferred (some [])))
    (fun i W h => ⟨h.1, ⟨_, h.2.1⟩, h.2.2⟩) (fun i W W' h hi hk => ⟨hi, hk.2.trans h.2.1, hk.1.trans h.2.2⟩) ?_ (n - 1) _ ⟨hI 0 _ _ h0 (bX _) cX, hL1, hK1⟩ (hKc _ _ cX) (bX _)).mono ?_
  · rintro n i v u W hi ⟨hIi, hl, hk⟩ hR
    have hlt : w.heap.size + 1 < W.heap.size := (Array.getElem?_eq_some_iff.1 hl).1
    have hy : (Instr.yield (w.heap.size + 1) #[v, u]).run P W = .ok (.round (w.heap.size + 1) fn ((a.tmps.setIfInBounds p v).setIfInBounds q u) assign body) W := by
      have := run_yield (P := P) (args := #[v, u]) hl (by rw [hrec]; rfl)
      rw [hrec] at this
      simpa using this
    refine ⟨fn, _, assign, body, hy, roundIn_of_wpIn hfn ?_⟩
    refine hassign n i v u W _ hIi hR ⟨⟨_, hl⟩, hk⟩ (fun a' W' hax hkk hkb => ?_)
    have hl' := hkk.2.trans hl
    have hk' := hkk.1.trans hk
    have hlt' : w.heap.size + 1 < W'.heap.size := (Array.getElem?_eq_some_iff.1 hl').1
    refine ⟨_, run_beginRound hl' (by rw [hrec]), ?_⟩
    have hl2 : (W'.putObj (w.heap.size + 1) (.loop { rec .ready none with state := .busy })).heap[w.heap.size + 1]? = some (.loop { rec .ready none with state := .busy }) := World.putObj_heap_same hlt'
    have hk2 : (W'.putObj (w.heap.size + 1) (.loop { rec .ready none with state := .busy })).heap[w.heap.size]? = some (.deferred (some [])) := (World.putObj_heap_other (by omega)).trans hk'
    refine wpIn_mono (hbody n i v u a' _ hi (hA _ _ _ _ _ _ hax (But.putObj _ _ _ (.inr rfl)) (CellsKept.put ⟨⟨_, hl'⟩, hk'⟩ _ (.inr rfl) _)) hR ⟨⟨_, hl2⟩, hk2⟩) ?_
    rintro e a3 W3 hp
    cases e with
    | normal =>
      obtain ⟨hi3, hk3, hkb3⟩ := hp
      have hl3 := hk3.2.trans hl2
      have hd3 := hk3.1.trans hk2
      have hlt3 : w.heap.size + 1 < W3.heap.size := (Array.getElem?_eq_some_iff.1 hl3).1
      have hr := run_endRound (P := P) none hl3
      refine ⟨_, _, hr, rfl, ⟨hI _ _ _ hi3 (But.putObj _ _ _ (.inr rfl)) (CellsKept.put ⟨⟨_, hl3⟩, hd3⟩ _ (.inr rfl) _), ?_, (World.putObj_heap_other (by omega)).trans hd3⟩,
        hKt _ _ _ (hKt _ _ _ hkb (hKt _ _ _ (hKc _ _ (CellsKept.put ⟨⟨_, hl'⟩, hk'⟩ _ (.inr rfl) _)) hkb3)) (hKc _ _ (CellsKept.put ⟨⟨_, hl3⟩, hd3⟩ _ (.inr rfl) _))⟩
      rw [World.putObj_heap_same hlt3, hrec]
      rfl
    | ret => exact hp.elim
    | exit id => exact hp.elim
    | goto t => exact hp.elim
    | panic ch => exact hp.elim
    | outgrown => exact hp.elim
  · rintro e W2 ⟨⟨v, rfl⟩, ⟨hi, hl, hk⟩, hF⟩
    have he := run_endLoop (P := P) hl (by rw [hrec]; simp)
    rw [hrec] at he
    exact ⟨none, _, he, hdone _ (hI _ _ _ hi (But.putObj _ _ _ (.inr rfl)) (CellsKept.put ⟨⟨_, hl⟩, hk⟩ _ (.inr rfl) _)) (hFin _ _ hF (CellsKept.put ⟨⟨_, hl⟩, hk⟩ _ (.inr rfl) _)) ((World.putObj_heap_other (by omega)).trans hk)⟩
end Go.Proofs.YtecjdjdfikcliaaGreatDoor
end
section
/-
  term.Depth: the walk through a term's nodes.
-/
namespace Go.Proofs.YtecjdjdfikcliaaGreatDoor.Pr
open Go Go.Proofs.YtecjdjdfikcliaaGreatDoor
open Go.RowKit Go.Proofs.YtecjdjdfikcliaaGreatDoorW.PrintWords Go.Proofs.YtecjdjdfikcliaaGreatDoorW.PrintLast Go.Proofs.YtecjdjdfikcliaaGreatDoorW.PrintMore Go.Proofs.YtecjdjdfikcliaaGreatDoor.P

mutual
def depT : S36 → Nat
  | ⟨_, _, _, l⟩ => depL l + 1
def depL : List S36 → Nat
  | [] => 0
  | x :: l => max (depT x) (depL l)
end
mutual
def szT : S36 → Nat
  | ⟨_, _, _, l⟩ => szL l + 1
def szL : List S36 → Nat
  | [] => 0
  | x :: l => szT x + szL l
end
mutual
/-- The depths of a term's nodes, as they are walked through. -/
def preT (d : Nat) : S36 → List Nat
  | ⟨_, _, _, l⟩ => d :: preL (d + 1) l
def preL (d : Nat) : List S36 → List Nat
  | [] => []
  | x :: l => preT d x ++ preL d l
end
theorem depT_eq (x : S36) : depT x = depL x.f3 + 1 := by cases x; simp only [depT]
theorem szT_eq (x : S36) : szT x = szL x.f3 + 1 := by cases x; simp only [szT]
theorem preT_eq (d : Nat) (x : S36) : preT d x = d :: preL (d + 1) x.f3 := by cases x; simp only [preT]
theorem szT_mem : ∀ (l : List S36) (x : S36), x ∈ l → szT x ≤ szL l
  | y :: l, x, h => by
    rcases List.mem_cons.1 h with rfl | h
    · simp only [szL]; omega
    · have := szT_mem l x h; simp only [szL]; omega
theorem szL_len : ∀ l : List S36, l.length ≤ szL l
  | [] => Nat.le_refl _
  | x :: l => by have := szL_len l; have := szT_eq x; simp only [szL, List.length_cons]; omega
theorem preL_cons (d : Nat) (x : S36) (l : List S36) : preL d (x :: l) = preT d x ++ preL d l := by simp only [preL]
mutual
theorem fold_pre : ∀ (x : S36) (d a : Nat), 1 ≤ d → (preT d x).foldl max a = max a (d + depT x - 1)
  | ⟨_, _, _, l⟩, d, a, h => by
    have := fold_preL l (d + 1) (max a d) (by omega)
    simp only [preT, depT, List.foldl_cons, this]
    split <;> omega
theorem fold_preL : ∀ (l : List S36) (d a : Nat), 1 ≤ d → (preL d l).foldl max a = max a (if depL l = 0 then 0 else d + depL l - 1)
  | [], d, a, h => by simp [preL, depL]
  | x :: l, d, a, h => by
    have h1 := fold_pre x d a h
    have h2 := fold_preL l d (max a (d + depT x - 1)) h
    have h3 := depT_eq x
    have e1 : depL (x :: l) = max (depT x) (depL l) := by simp only [depL]
    rw [preL_cons, List.foldl_append, h1, h2, e1]
    obtain ⟨p, hp⟩ : ∃ p, depT x = p := ⟨_, rfl⟩
    obtain ⟨q, hq⟩ : ∃ q, depL l = q := ⟨_, rfl⟩
    rw [hp] at h3 ⊢
    rw [hq]
    split <;> split <;> omega
end

/-- All rows of cells but one stand. -/
def KbN (nb : Nat) (W W' : World) : Prop := W.heap.size ≤ W'.heap.size ∧ ∀ (j : Nat) c t f, j ≠ nb → W.heap[j]? = some (Obj.cells c t f) → W'.heap[j]? = some (Obj.cells c t f)
theorem KbN.trans {nb : Nat} {A B C : World} (h : KbN nb A B) (k : KbN nb B C) : KbN nb A C := ⟨Nat.le_trans h.1 k.1, fun j c t f hj h1 => k.2 j c t f hj (h.2 j c t f hj h1)⟩
theorem KbN.of {nb : Nat} {A B : World} (h : CellsKept A B) : KbN nb A B := ⟨h.1, fun j c t f _ hj => h.2 j c t f hj⟩

set_option maxHeartbeats 4000000 in
set_option maxRecDepth 100000 in
theorem walk_calls (w : World) (dps : List Nat) (nb rec : Nat) (J : Nat → World → Prop)
    (hJ1 : ∀ i W, J i W → Below w.heap.size w W ∧ nb < W.heap.size) (hJa : ∀ i W o, J i W → J i (W.alloc o))
    (hJ3 : ∀ n i v u W, i < dps.length → J i W → (∃ h : i < dps.length, v = .int .i64 (dps[i] : Int)) → YieldAt Fence.wide n Tryz.prog rec #[v, u] W fun e W' => e = .returned (.bool true) ∧ J (i + 1) W' ∧ KbN nb W W') :
    ∀ (k : Nat) (x : S36) (d i n : Nat) (v : Value) (t : List Nat) (W : World), szT x ≤ k → k ≤ 1000000 → d + k ≤ 2000000 → TermV w x v → J i W → dps.drop i = preT d x ++ t →
      CallsIn Fence.wide n Tryz.prog 38 #[v, .int .i64 (d : Int), .func (.yield rec) #[] #[]] W fun e W' => e = .returned (.bool true) ∧ J (i + (preT d x).length) W' ∧ KbN nb W W'
  | 0, x, d, i, n, v, t, W, h, _, _, _, _, _ => absurd h (by rw [szT_eq]; exact Nat.not_succ_le_zero _)
  | k + 1, x, d, i, n, v, t, W, hsz, hk, hdk, hV, hJ, hdrop => by
    have hu24 := Tryz.underlying36
    obtain ⟨A, c, rfl, hc, hC⟩ := hV
    have hszl : szL x.f3 ≤ k := by rw [szT_eq] at hsz; omega
    have hlen := szL_len x.f3
    have hdi : i < dps.length := by
      have := congrArg List.length hdrop
      rw [List.length_drop, List.length_append, preT_eq, List.length_cons] at this
      omega
    have hd0 : dps[i] = d := by
      have h1 : (dps.drop i)[0]? = some d := by rw [hdrop, preT_eq]; rfl
      rw [List.getElem?_drop, Nat.add_zero, List.getElem?_eq_getElem hdi] at h1
      exact Option.some.inj h1
    refine callsIn_of_wp Tryz.func38 rfl trivial ?_ rfl
    simp only [Tryz.ntmps38, List.size_toArray, List.length_cons, List.length_nil, Nat.reduceAdd, Nat.reduceSub, Array.replicate_succ, Array.replicate_zero, List.push_toArray, List.append_toArray, List.nil_append, List.cons_append]
    have hT := (MapKept.heap_alloc W (.cells #[.int .u8 x.f0, .string x.f1, .int .i64 x.f2, .slice A x.f3.length c] 36)).1
    have hJ' := hJa i W (.cells #[.int .u8 x.f0, .string x.f1, .int .i64 x.f2, .slice A x.f3.length c] 36) hJ
    have hKa : KbN nb W (W.alloc (.cells #[.int .u8 x.f0, .string x.f1, .int .i64 x.f2, .slice A x.f3.length c] 36)) := KbN.of (CellsKept.alloc _ _)
    have hnW := (hJ1 i W hJ).2
    obtain ⟨fn, tmps, assign, body, hy, hR⟩ := hJ3 (n - 1) i _ (.agg #[.int .u8 x.f0, .string x.f1, .int .i64 x.f2, .slice A x.f3.length c]) _ hdi hJ' ⟨hdi, rfl⟩
    rw [hd0] at hy
    have HR := Lib.hid hR
    clear hR
    gi_wp2
    refine ⟨fun h => absurd h (by simp [Fence.wide]), ?_⟩
    refine HR.out.mono ?_
    rintro e W1 ⟨rfl, hJ1', hK1⟩
    have hT1 := hK1.2 _ _ _ _ (Nat.ne_of_gt hnW) hT
    have b3 : W1.cell? ⟨W.heap.size, 3, none⟩ = some (.slice A x.f3.length c) := Lib.cell_of_heap hT1 3
    have hKW := hKa.trans hK1
    have hpre := Lib.hid (preT_eq d x)
    have hdr1 : dps.drop (i + 1) = preL (d + 1) x.f3 ++ t := by
      rw [← List.drop_drop, hdrop, preT_eq]
      rfl
    have HDR := Lib.hid hdr1
    clear HR hT hdrop hd0 hJ' hKa hdr1 hT1 hJ
    gi_wp2
    gi_loopw [17] (fun p wr => ∃ j i' : Nat, p = .int .i64 j ∧ j ≤ x.f3.length ∧ J i' wr ∧ Hid (dps.drop i' = preL (d + 1) (x.f3.drop j) ++ t) ∧ Hid (i' + (preL (d + 1) (x.f3.drop j)).length = i + (preT d x).length) ∧ KbN nb W wr) (fun p _ => x.f3.length - (intOf p).toNat)
    case atStart =>
      refine ⟨0, i + 1, rfl, Nat.zero_le _, hJ1', HDR.out, ?_, hKW⟩
      show _ = _
      rw [hpre.out, List.drop_zero, List.length_cons]
      omega
    case round =>
      obtain ⟨j, i', rfl, hj, hJr, hdr, hil, hKr⟩ := hrel
      by_cases hlt : j < x.f3.length
      · have hdd : decide ((j : Int) < (x.f3.length : Int)) = true := by simp; omega
        obtain ⟨hbW, hnr⟩ := hJ1 i' wr hJr
        obtain ⟨ad, A3, c3, rfl, e0, e1, e2, e3, hc3, hC3⟩ := at_T36 hC j (by omega) (by omega)
        rw [rd_at x.f3 j hlt] at e0 e1 e2 e3 hc3 hC3
        rw [Int.toNat_natCast] at e0 e1 e2 e3
        have hVj : TermV w x.f3[j] (.agg #[.int .u8 x.f3[j].f0, .string x.f3[j].f1, .int .i64 x.f3[j].f2, .slice A3 x.f3[j].f3.length c3]) := ⟨A3, c3, rfl, hc3, hC3⟩
        replace e0 := (hbW.cell (World.block_lt_of_cell? w _ e0)).trans e0
        replace e1 := (hbW.cell (World.block_lt_of_cell? w _ e1)).trans e1
        replace e2 := (hbW.cell (World.block_lt_of_cell? w _ e2)).trans e2
        replace e3 := (hbW.cell (World.block_lt_of_cell? w _ e3)).trans e3
        have hJ2 := hJa i' wr (.cells #[.int .u8 x.f3[j].f0, .string x.f3[j].f1, .int .i64 x.f3[j].f2, .slice A3 x.f3[j].f3.length c3] 36) hJr
        have hKb : KbN nb wr (wr.alloc (.cells #[.int .u8 x.f3[j].f0, .string x.f3[j].f1, .int .i64 x.f3[j].f2, .slice A3 x.f3[j].f3.length c3] 36)) := KbN.of (CellsKept.alloc _ _)
        have hspl : x.f3.drop j = x.f3[j] :: x.f3.drop (j + 1) := List.drop_eq_getElem_cons hlt
        have hd2 := hdr.out
        have hl2 := hil.out
        rw [hspl, preL_cons, List.append_assoc] at hd2
        rw [hspl, preL_cons, List.length_append] at hl2
        have hcast : (((d + 1 : Nat) : Int)) = (d : Int) + 1 := by omega
        have hih := walk_calls w dps nb rec J hJ1 hJa hJ3 k x.f3[j] (d + 1) i' (n - 1) _ _ _ (Nat.le_trans (szT_mem _ _ (List.getElem_mem hlt)) hszl) (by omega) (by omega) hVj hJ2 hd2
        rw [hcast] at hih
        have hnext : dps.drop (i' + (preT (d + 1) x.f3[j]).length) = preL (d + 1) (x.f3.drop (j + 1)) ++ t := by
          rw [← List.drop_drop, hd2, List.drop_left]
        have HIH := Lib.hid hih
        have HNX := Lib.hid hnext
        have HL2 := Lib.hid hl2
        clear hih hnext hl2 hd2 hspl hcast hVj hC3
        gi_wp2_with fail
        refine ⟨trivial, fun h => absurd h (by simp [Fence.wide]), ?_⟩
        refine HIH.out.mono ?_
        rintro e W3 ⟨rfl, hJ3', hK3⟩
        gi_wp2
        refine ⟨⟨j + 1, _, by simp, by omega, hJ3', HNX.out, ?_, hKr.trans (hKb.trans hK3)⟩, by simp [intOf]; omega⟩
        show _ = _
        have := HL2.out
        omega
      · have hdd : decide ((j : Int) < (x.f3.length : Int)) = false := by simp; omega
        obtain rfl : j = x.f3.length := by omega
        have hl2 := hil.out
        rw [List.drop_length] at hl2
        have e : i' = i + (preT d x).length := hl2
        have HE := Lib.hid e
        clear e hl2 hil hdr
        gi_wp2
        go_ret
        exact ⟨rfl, by rw [← HE.out]; exact hJr, hKr⟩
end Go.Proofs.YtecjdjdfikcliaaGreatDoor.Pr
end
