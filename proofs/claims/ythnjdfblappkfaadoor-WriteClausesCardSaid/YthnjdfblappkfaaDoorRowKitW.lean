import Derived.Test.YthnjdfblappkfaaDoorRowKit
import Derived.Test.YthnjdfblappkfaaDoorWLaid
import Derived.Test.YthnjdfblappkfaaDoorShelfW
import Derived.Lib.LaidU8T
import Derived.Carry
/-!
  What the writer's rows give: the laid tables as the writer's premise.
-/
namespace Go.Proofs.YthnjdfblappkfaaDoor
open Go.RowKit

def laidWrite : List (String × DataW Unit) := [("math/bits.deBruijn32tab", Rows.laid_math_bits_deBruijn32tab), ("math/bits.deBruijn64tab", Rows.laid_math_bits_deBruijn64tab), ("internal/strconv.uint64pow10", Rows.laid_internal_strconv_uint64pow10), ("unicode/utf8.acceptRanges", Rows.laid_unicode_utf8_acceptRanges), ("unicode/utf8.first", Rows.laid_unicode_utf8_first)]

theorem first_eq : Rows.laid_unicode_utf8_first = Lib.firstData := by kernel_rfl
theorem accept_eq : Rows.laid_unicode_utf8_acceptRanges = Lib.acceptData := by kernel_rfl
theorem pow_eq : (Rows.laid_internal_strconv_uint64pow10 : DataW Unit) = Lib.tabData .u64 Lib.pow10Tab := by kernel_rfl
theorem u8types : U8Types Tryd.prog Tryd.lays271_ren := ⟨by kernel_rfl, by kernel_rfl, by kernel_rfl, by kernel_rfl⟩
theorem u8extra : U8Extra Tryd.prog Tryd.lays271_ren := ⟨by kernel_rfl, by kernel_rfl, by kernel_rfl, by kernel_rfl, by kernel_rfl, by kernel_rfl, by kernel_rfl⟩

/-- The door's world, with the table that the dump names alone. -/
noncomputable def doorW (os : Os) : World :=
  let w0 := World.doorLaid Tryd.prog 400 os
  { w0 with heap := w0.heap.modify 4 fun
    | .cells _ t frozen => .cells (Lib.firstTab.map fun z => Value.int .u8 z).toArray t frozen
    | o => o }
/-- It meets the condition. -/
theorem door_metW (os : Os) (args : Array Value) : laidMetH Tryd.prog laidWrite ((doorW os).forCall (fun _ _ => 0) ⟨#[], args, []⟩).memory :=
  laidMetH_of_parts3 (fuel := 8) (laidMet_of_run' 8 (by kernel_rfl) (by kernel_rfl)) (by kernel_rfl) (by kernel_rfl)

theorem laidOut : laidOutB Tryd.prog = true := by kernel_rfl
theorem pow_type : (Tryd.prog.globals[3]?).map (·.type) = some 175 := by kernel_rfl
theorem pow_arr : Tryd.prog.underlying 175 = some (.array 20 123) := by kernel_rfl
theorem pow_elem : Tryd.prog.underlying 123 = some (.int .u64) := by kernel_rfl
theorem laidW_of {W : World} (h : laidMetH Tryd.prog laidWrite W) : LaidW W := by
  rw [MakeChecks.laidMetH_plain _ _ _ (by kernel_rfl)] at h
  refine ⟨?_, ?_⟩
  · exact utf8Tabs_of_readsT (ρ := Tryd.lays271_ren) u8types u8extra (first_eq ▸ Lib.laidMet.reads h (.tail _ (.tail _ (.tail _ (.tail _ (.head _)))))) (accept_eq ▸ Lib.laidMet.reads h (.tail _ (.tail _ (.tail _ (.head _)))))
  · obtain ⟨g, t, cs, fuel, p, hg, hty, hvar, hd⟩ := Lib.laidMet.reads h (.tail _ (.tail _ (.head _)))
    rw [pow_eq] at hd
    obtain rfl := Option.some.inj (global_pow.symm.trans hg)
    obtain rfl := Option.some.inj (pow_type.symm.trans hty)
    show W.var? _ _ = _
    rw [hvar, ← Lib.cells_of_tab pow_arr pow_elem (by kernel_rfl) (by kernel_rfl) hd]
end Go.Proofs.YthnjdfblappkfaaDoor
