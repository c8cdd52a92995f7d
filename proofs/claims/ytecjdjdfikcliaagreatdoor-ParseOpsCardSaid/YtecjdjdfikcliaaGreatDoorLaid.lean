/-
  What the lexer's calls need of the world: one number and two errors of Go's library are laid in their variables.
-/
import Derived.Test.YtecjdjdfikcliaaGreatDoorProg
import Derived.Test.YtecjdjdfikcliaaGreatDoorBase
namespace Go.Proofs.YtecjdjdfikcliaaGreatDoor
open Go.RowKit

structure LaidE (w : World) : Prop where
  num : ∃ m, w.cell? ⟨2, 0, none⟩ = some (.int .i64 m)
  syn : ∃ tp p, w.var? Tryz.prog "strconv.ErrSyntax" = some #[.iface tp p]
  rng : ∃ tp p, w.var? Tryz.prog "strconv.ErrRange" = some #[.iface tp p]

theorem var_lt {w : World} {n : String} {g : Nat} {cs : Array Value} (hg : Tryz.prog.globalNamed n = some g) (h : w.var? Tryz.prog n = some cs) : g < w.heap.size := by
  unfold World.var? at h
  simp only [hg, Option.bind_some] at h
  rcases Nat.lt_or_ge g w.heap.size with hlt | hge
  · exact hlt
  · rw [Array.getElem?_eq_none hge] at h
    simp at h
theorem global_syn : Tryz.prog.globalNamed "strconv.ErrSyntax" = some 3 := by kernel_rfl
theorem global_rng : Tryz.prog.globalNamed "strconv.ErrRange" = some 4 := by kernel_rfl

theorem LaidE.below {w w' : World} (h : LaidE w) (hb : Below w.heap.size w w') : LaidE w' := by
  obtain ⟨⟨m, hm⟩, ⟨t1, p1, h1⟩, ⟨t2, p2, h2⟩⟩ := h
  exact ⟨⟨m, (hb.cell (World.block_lt_of_cell? w _ hm)).trans hm⟩, ⟨t1, p1, var?_below hb global_syn (var_lt global_syn h1) h1⟩, ⟨t2, p2, var?_below hb global_rng (var_lt global_rng h2) h2⟩⟩
end Go.Proofs.YtecjdjdfikcliaaGreatDoor
