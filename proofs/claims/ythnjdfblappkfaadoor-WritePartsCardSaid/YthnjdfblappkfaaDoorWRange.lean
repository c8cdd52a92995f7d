/-
  A range over a function whose iterator keeps a state of its own in cells: what the iterator does is walked at the caller's own invariant.
-/
import Derived.RangeFuncNested
import Derived.RangeFuncBound
import Derived.RangeFuncLeaves
import Derived.Shelf.Abstract
import Derived.Shelf.RegionOpen
import Derived.WalkKit
import Derived.OwnWalkIn
import Derived.TacticsInMore
import Derived.LoopNIn
import Derived.LoopIn
import Derived.Test.YthnjdfblappkfaaDoorBase
namespace Go.Proofs.YthnjdfblappkfaaDoor
open Go.RowKit

/-- All but the blocks X is as it was; there may be new blocks. -/
structure But (X : Nat → Prop) (W W' : World) : Prop where
  os : W'.os = W.os
  tape : W'.tape = W.tape
  output : W'.output = W.output
  size : W.heap.size ≤ W'.heap.size
  block : ∀ k, k < W.heap.size → ¬ X k → W'.heap[k]? = W.heap[k]?

theorem But.putObj {X : Nat → Prop} (W : World) (l : Nat) (o : Obj) (h : X l) : But X W (W.putObj l o) :=
  ⟨rfl, rfl, rfl, by simp [World.putObj], fun k _ hk => World.putObj_heap_other (fun e => hk (e ▸ h))⟩
theorem But.alloc {X : Nat → Prop} (W : World) (o : Obj) : But X W (W.alloc o) :=
  ⟨rfl, rfl, rfl, by rw [World.size_alloc]; omega, fun k hk _ => Below.heap_alloc W o k hk⟩
theorem But.trans {X : Nat → Prop} {A B C : World} (h : But X A B) (k : But X B C) : But X A C :=
  ⟨k.os.trans h.os, k.tape.trans h.tape, k.output.trans h.output, Nat.le_trans h.size k.size, fun i hi hx => (k.block i (Nat.lt_of_lt_of_le hi h.size) hx).trans (h.block i hi hx)⟩

/-- The loop's two records stand. -/
def RecKept (b : Nat) (W W' : World) : Prop := W'.heap[b]? = W.heap[b]? ∧ W'.heap[b + 1]? = W.heap[b + 1]?

/-- The loop's record and the block of its rounds' deferred calls lie. -/
def Recs (b : Nat) (W : World) : Prop := (∃ r, W.heap[b + 1]? = some (.loop r)) ∧ W.heap[b]? = some (.deferred (some []))
theorem Recs.lt {b : Nat} {W : World} (h : Recs b W) : b + 2 ≤ W.heap.size := by
  obtain ⟨⟨r, hr⟩, _⟩ := h
  have := (Array.getElem?_eq_some_iff.1 hr).1
  omega
/-- What is no cells is turned: every row of cells stands. -/
def CellsKept (W W' : World) : Prop := W.heap.size ≤ W'.heap.size ∧ ∀ (j : Nat) c t f, W.heap[j]? = some (Obj.cells c t f) → W'.heap[j]? = some (Obj.cells c t f)
theorem CellsKept.alloc (W : World) (o : Obj) : CellsKept W (W.alloc o) :=
  ⟨by rw [World.size_alloc]; omega, fun j c t f h => (Below.heap_alloc W o j (Array.getElem?_eq_some_iff.1 h).1).trans h⟩
theorem CellsKept.put {b : Nat} {W : World} (h : Recs b W) (k : Nat) (hk : k = b ∨ k = b + 1) (o : Obj) : CellsKept W (W.putObj k o) := by
  refine ⟨by simp [World.putObj], fun j c t f hj => (World.putObj_heap_other ?_).trans hj⟩
  rintro rfl
  obtain ⟨⟨r, hr⟩, hd⟩ := h
  rcases hk with rfl | rfl
  · rw [hd] at hj; cases hj
  · rw [hr] at hj; cases hj

set_option maxHeartbeats 1000000 in
theorem wp_range_own {P : Program} {g : Operand} {p : Tmp} {assign body : Code} {Q : Exit → Act → World → Prop} {a : Act} {w : World} {gf : Nat} {lb : Array Value} {n : Nat}
    (hg : a.eval g = .func (.func gf) #[] lb) (eg : ∀ args w, (callFunc gf args).run P w = .ok (.enter gf args) w)
    (I : Nat → World → Prop) (R : Nat → Value → Prop) (m : Nat) (Ax : Nat → Value → Act → World → Prop) (Kb : World → World → Prop) (Fin : World → Prop)
    (hKt : ∀ A B C, Kb A B → Kb B C → Kb A C) (hKc : ∀ A B, CellsKept A B → Kb A B) (hFin : ∀ A B, Fin A → CellsKept A B → Fin B)
    (hI : ∀ i W W', I i W → But (fun k => k = w.heap.size ∨ k = w.heap.size + 1) W W' → CellsKept W W' → I i W')
    (hA : ∀ i v a' W W', Ax i v a' W → But (fun k => k = w.heap.size ∨ k = w.heap.size + 1) W W' → CellsKept W W' → Ax i v a' W')
    (h0 : I 0 w)
    (hassign : ∀ (n : Nat) (i : Nat) (v : Value) (W : World) (K : Act → World → Prop), I i W → R i v → Recs w.heap.size W → (∀ a' W', Ax i v a' W' → RecKept w.heap.size W W' → Kb W W' → K a' W') →
      assign.wpIn (Fence.wide.inRound (w.heap.size + 1)) n P (Exit.then K (fun _ _ _ => False)) { tmps := a.tmps.setIfInBounds p v, defers := [] } W)
    (hbody : ∀ (n : Nat) (i : Nat) (v : Value) (a' : Act) (W : World), i < m → Ax i v a' W → R i v → Recs w.heap.size W →
      body.wpIn (Fence.wide.inRound (w.heap.size + 1)) n P (Exit.then (fun _ W' => I (i + 1) W' ∧ RecKept w.heap.size W W' ∧ Kb W W') (fun _ _ _ => False)) a' W)
    (hiter : ∀ (J : Nat → World → Prop), (∀ i W, J i W → I i W ∧ Recs w.heap.size W) → (∀ i W W', J i W → I i W' → RecKept w.heap.size W W' → J i W') →
      (∀ n i v W, i < m → J i W → R i v → YieldAt Fence.wide n P (w.heap.size + 1) #[v] W fun e W' => e = .returned (.bool true) ∧ J (i + 1) W' ∧ Kb W W') →
      ∀ n W1, J 0 W1 → Kb w W1 → But (fun _ => False) w W1 → CallsIn Fence.wide n P gf (#[.func (.yield (w.heap.size + 1)) #[] #[]] ++ lb) W1 fun e W' => (∃ v, e = .returned v) ∧ J m W' ∧ Fin W')
    (hdone : ∀ W, I m W → Fin W → W.heap[w.heap.size]? = some (.deferred (some [])) → Q .normal { a with defers := { target := .collected w.heap.size, args := #[] } :: a.defers } W) :
    (Code.rangeFunc g #[p] assign body).wpIn Fence.wide n P Q a w := by
  refine wpIn_rangeFunc ?_
  intro fn hfn
  obtain ⟨rec, hrec⟩ : ∃ rec : LoopState → Option Code → Loop, rec = fun st pe => { state := st, pending := pe, fn := fn, tmps := a.tmps, params := #[p], assign := assign, body := body, defers := w.heap.size } := ⟨_, rfl⟩
  obtain ⟨W1, hW1⟩ : ∃ W1, (w.alloc (.deferred (some []))).alloc (.loop (rec .ready none)) = W1 := ⟨_, rfl⟩
  have bX : ∀ X, But X w W1 := fun X => by rw [← hW1]; exact (But.alloc w _).trans (But.alloc _ _)
  have cX : CellsKept w W1 := by
    rw [← hW1]
    exact ⟨by rw [World.size_alloc, World.size_alloc]; omega, fun j c t f h => (CellsKept.alloc _ _).2 j c t f ((CellsKept.alloc w _).2 j c t f h)⟩
  have hL1 : W1.heap[w.heap.size + 1]? = some (.loop (rec .ready none)) := by
    rw [← hW1]
    have := (MapKept.heap_alloc (w.alloc (.deferred (some []))) (.loop (rec .ready none))).1
    rwa [World.size_alloc] at this
  have hK1 : W1.heap[w.heap.size]? = some (.deferred (some [])) := by
    rw [← hW1]
    exact (Below.heap_alloc _ _ _ (by rw [World.size_alloc]; omega)).trans (MapKept.heap_alloc w _).1
  refine ⟨w.heap.size + 1, [{ target := .collected w.heap.size, args := #[] }], W1, { target := .fn (.func gf) lb, args := #[.func (.yield (w.heap.size + 1)) #[] #[]] }, W1, gf,
    #[.func (.yield (w.heap.size + 1)) #[] #[]] ++ lb, W1, ?_, ?_, fun _ _ => trivial, ?_, fun h => absurd h (by simp [Fence.wide]), ?_⟩
  · rw [← hW1, hrec]; exact run_enterLoop_outer _ _ _ _ _
  · simp only [resolve, hg]
    simp [go_sem]
  · simp [invoke, go_sem, eg]
  refine (hiter (fun i W => I i W ∧ W.heap[w.heap.size + 1]? = some (.loop (rec .ready none)) ∧ W.heap[w.heap.size]? = some (.deferred (some [])))
    (fun i W h => ⟨h.1, ⟨_, h.2.1⟩, h.2.2⟩) (fun i W W' h hi hk => ⟨hi, hk.2.trans h.2.1, hk.1.trans h.2.2⟩) ?_ (n - 1) _ ⟨hI 0 _ _ h0 (bX _) cX, hL1, hK1⟩ (hKc _ _ cX) (bX _)).mono ?_
  · rintro n i v W hi ⟨hIi, hl, hk⟩ hR
    have hlt : w.heap.size + 1 < W.heap.size := (Array.getElem?_eq_some_iff.1 hl).1
    have hy : (Instr.yield (w.heap.size + 1) #[v]).run P W = .ok (.round (w.heap.size + 1) fn (a.tmps.setIfInBounds p v) assign body) W := by
      have := run_yield (P := P) (args := #[v]) hl (by rw [hrec]; rfl)
      rw [hrec] at this
      simpa using this
    refine ⟨fn, _, assign, body, hy, roundIn_of_wpIn hfn ?_⟩
    refine hassign n i v W _ hIi hR ⟨⟨_, hl⟩, hk⟩ (fun a' W' hax hkk hkb => ?_)
    have hl' := hkk.2.trans hl
    have hk' := hkk.1.trans hk
    have hlt' : w.heap.size + 1 < W'.heap.size := (Array.getElem?_eq_some_iff.1 hl').1
    refine ⟨_, run_beginRound hl' (by rw [hrec]), ?_⟩
    have hl2 : (W'.putObj (w.heap.size + 1) (.loop { rec .ready none with state := .busy })).heap[w.heap.size + 1]? = some (.loop { rec .ready none with state := .busy }) := World.putObj_heap_same hlt'
    have hk2 : (W'.putObj (w.heap.size + 1) (.loop { rec .ready none with state := .busy })).heap[w.heap.size]? = some (.deferred (some [])) := (World.putObj_heap_other (by omega)).trans hk'
    refine wpIn_mono (hbody n i v a' _ hi (hA _ _ _ _ _ hax (But.putObj _ _ _ (.inr rfl)) (CellsKept.put ⟨⟨_, hl'⟩, hk'⟩ _ (.inr rfl) _)) hR ⟨⟨_, hl2⟩, hk2⟩) ?_
    rintro e a3 W3 hp
    cases e with
    | normal =>
      obtain ⟨hi3, hk3, hkb3⟩ := hp
      have hl3 := hk3.2.trans hl2
      have hd3 := hk3.1.trans hk2
      have hlt3 : w.heap.size + 1 < W3.heap.size := (Array.getElem?_eq_some_iff.1 hl3).1
      have hr := run_endRound (P := P) none hl3
      refine ⟨_, _, hr, rfl, ⟨hI _ _ _ hi3 (But.putObj _ _ _ (.inr rfl)) (CellsKept.put ⟨⟨_, hl3⟩, hd3⟩ _ (.inr rfl) _), ?_, (World.putObj_heap_other (by omega)).trans hd3⟩,
        hKt _ _ _ (hKt _ _ _ hkb (hKt _ _ _ (hKc _ _ (CellsKept.put ⟨⟨_, hl'⟩, hk'⟩ _ (.inr rfl) _)) hkb3)) (hKc _ _ (CellsKept.put ⟨⟨_, hl3⟩, hd3⟩ _ (.inr rfl) _))⟩
      rw [World.putObj_heap_same hlt3, hrec]
      rfl
    | ret => exact hp.elim
    | exit id => exact hp.elim
    | goto t => exact hp.elim
    | panic ch => exact hp.elim
    | outgrown => exact hp.elim
  · rintro e W2 ⟨⟨v, rfl⟩, ⟨hi, hl, hk⟩, hF⟩
    have he := run_endLoop (P := P) hl (by rw [hrec]; simp)
    rw [hrec] at he
    exact ⟨none, _, he, hdone _ (hI _ _ _ hi (But.putObj _ _ _ (.inr rfl)) (CellsKept.put ⟨⟨_, hl⟩, hk⟩ _ (.inr rfl) _)) (hFin _ _ hF (CellsKept.put ⟨⟨_, hl⟩, hk⟩ _ (.inr rfl) _)) ((World.putObj_heap_other (by omega)).trans hk)⟩
end Go.Proofs.YthnjdfblappkfaaDoor
