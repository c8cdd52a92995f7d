/-
  What the writer's calls need of the world: the tables of Go's library that are laid in their variables.
-/
import Derived.Test.YthnjdfblappkfaaDoorProg
import Derived.Test.YthnjdfblappkfaaDoorBase
import Derived.Shelf.Unicode.DecodeLast
import Derived.Shelf.Strconv.Itoa4
namespace Go.Proofs.YthnjdfblappkfaaDoor
open Go.RowKit

structure LaidW (w : World) : Prop where
  tabs : Lib.Utf8Tabs 4 5 w
  pow : Lib.TabIs Tryd.prog w "internal/strconv.uint64pow10" .u64 Lib.pow10Tab

theorem wvar_lt {w : World} {n : String} {g : Nat} {cs : Array Value} (hg : Tryd.prog.globalNamed n = some g) (h : w.var? Tryd.prog n = some cs) : g < w.heap.size := by
  unfold World.var? at h
  simp only [hg, Option.bind_some] at h
  rcases Nat.lt_or_ge g w.heap.size with hlt | hge
  · exact hlt
  · rw [Array.getElem?_eq_none hge] at h
    simp at h
theorem global_pow : Tryd.prog.globalNamed "internal/strconv.uint64pow10" = some 3 := by kernel_rfl

theorem LaidW.below {w w' : World} (h : LaidW w) (hb : Below w.heap.size w w') : LaidW w' := by
  obtain ⟨⟨h1, h2⟩, h3⟩ := h
  refine ⟨⟨fun c hc => (hb.cell (World.block_lt_of_cell? w _ (h1 c hc))).trans (h1 c hc), fun i hi => ⟨(hb.cell (World.block_lt_of_cell? w _ (h2 i hi).1)).trans (h2 i hi).1, (hb.cell (World.block_lt_of_cell? w _ (h2 i hi).2)).trans (h2 i hi).2⟩⟩, ?_⟩
  exact var?_below hb global_pow (wvar_lt global_pow h3) h3
end Go.Proofs.YthnjdfblappkfaaDoor
