/-
  DERIVED: THE SHELF's CONTRACTS AT THIS DUMP, IN PLAIN WORDS (tools/lay-plain.mjs out of 'TryzShelf.lean', which tools/lay-shelf.mjs wrote): THE SAME DECLARATIONS UNDER THE SAME NAMES: 'import', 'namespace', 'open', 'def', 'theorem' AND NOTHING ELSE: no command of the shelf's: FOR A HAND-IN. Each laying: the table of numbers ('.._ren') and one theorem, a field a fact of the dump's own or the kernel's comparison; each contract: ONE APPLICATION.
-/
import Derived.Shelf.LaysM
import Derived.Shelf.LaysC
import Derived.Shelf.Strings.Fields
import Derived.Test.YtecjdjdfikcliaaGreatDoorProg
namespace Go.Proofs
open Go.Shelf
def Tryz.lays157_ren : Go.Shelf.Ren := ⟨fun | 157 => 30 | 229 => 41 | 199 => 42 | 261 => 62 | 311 => 75 | 312 => 76 | n => n, fun | 9 => 9 | 31 => 37 | 3 => 3 | 5 => 5 | 4 => 4 | 119 => 89 | 0 => 0 | 40 => 91 | 152 => 101 | 21 => 21 | 154 => 103 | 51 => 104 | 141 => 106 | 196 => 123 | 193 => 120 | 198 => 126 | 49 => 124 | 194 => 121 | 201 => 129 | 226 => 135 | 46 => 132 | 227 => 136 | n => n, fun | 0 => 0 | 6 => 1 | n => n⟩
theorem Tryz.lays157 : Go.Proofs.Lays.n157 Tryz.prog Tryz.lays157_ren := {
  mixed := by kernel_rfl
  f157 := Tryz.func30.trans (congrArg some (by kernel_rfl))
  f199 := Tryz.func42.trans (congrArg some (by kernel_rfl))
  f229 := Tryz.func41.trans (congrArg some (by kernel_rfl))
  f261 := Tryz.func62.trans (congrArg some (by kernel_rfl))
  f311 := Tryz.func75.trans (congrArg some (by kernel_rfl))
  f312 := Tryz.func76.trans (congrArg some (by kernel_rfl))
  t0 := Tryz.underlying0
  a0 := Tryz.isAgg0
  z0 := Tryz.sizeOf0
  v0 := Tryz.zeroValue0
  t3 := Tryz.underlying3
  a3 := Tryz.isAgg3
  z3 := Tryz.sizeOf3
  v3 := Tryz.zeroValue3
  t4 := Tryz.underlying4
  a4 := Tryz.isAgg4
  z4 := Tryz.sizeOf4
  v4 := Tryz.zeroValue4
  t5 := Tryz.underlying5
  a5 := Tryz.isAgg5
  z5 := Tryz.sizeOf5
  v5 := Tryz.zeroValue5
  t9 := Tryz.underlying9
  a9 := Tryz.isAgg9
  z9 := Tryz.sizeOf9
  v9 := Tryz.zeroValue9
  t21 := Tryz.underlying21
  a21 := Tryz.isAgg21
  z21 := Tryz.sizeOf21
  v21 := Tryz.zeroValue21
  t31 := Tryz.underlying37
  a31 := Tryz.isAgg37
  z31 := Tryz.sizeOf37
  v31 := Tryz.zeroValue37
  t40 := Tryz.underlying91
  a40 := Tryz.isAgg91
  z40 := Tryz.sizeOf91
  v40 := Tryz.zeroValue91
  t46 := Tryz.underlying132
  a46 := Tryz.isAgg132
  z46 := Tryz.sizeOf132
  v46 := Tryz.zeroValue132
  t49 := Tryz.underlying124
  a49 := Tryz.isAgg124
  z49 := Tryz.sizeOf124
  v49 := Tryz.zeroValue124
  t51 := Tryz.underlying104
  a51 := Tryz.isAgg104
  z51 := Tryz.sizeOf104
  v51 := Tryz.zeroValue104
  t119 := Tryz.underlying89
  a119 := Tryz.isAgg89
  z119 := Tryz.sizeOf89
  t141 := Tryz.underlying106
  a141 := Tryz.isAgg106
  z141 := Tryz.sizeOf106
  v141 := Tryz.zeroValue106
  t152 := Tryz.underlying101
  a152 := Tryz.isAgg101
  z152 := Tryz.sizeOf101
  v152 := Tryz.zeroValue101
  t154 := Tryz.underlying103
  a154 := Tryz.isAgg103
  z154 := Tryz.sizeOf103
  v154 := Tryz.zeroValue103
  t193 := Tryz.underlying120
  a193 := Tryz.isAgg120
  z193 := Tryz.sizeOf120
  v193 := Tryz.zeroValue120
  t194 := Tryz.underlying121
  a194 := Tryz.isAgg121
  z194 := Tryz.sizeOf121
  v194 := Tryz.zeroValue121
  t196 := Tryz.underlying123
  a196 := Tryz.isAgg123
  z196 := Tryz.sizeOf123
  v196 := Tryz.zeroValue123
  t198 := Tryz.underlying126
  a198 := Tryz.isAgg126
  z198 := Tryz.sizeOf126
  v198 := Tryz.zeroValue126
  t201 := Tryz.underlying129
  a201 := Tryz.isAgg129
  z201 := Tryz.sizeOf129
  v201 := Tryz.zeroValue129
  t226 := Tryz.underlying135
  a226 := Tryz.isAgg135
  z226 := Tryz.sizeOf135
  v226 := Tryz.zeroValue135
  t227 := Tryz.underlying136
  a227 := Tryz.isAgg136
  z227 := Tryz.sizeOf136
  v227 := Tryz.zeroValue136
  g0 := by kernel_rfl
  g6 := by kernel_rfl }
open Go.RowKit Go.Lib in
/-- strings.Fields, the table by 'Lib.TabIs' (as strings.TrimSpace's contract). 'hg': the table's number, by its name: at a dump 'by kernel_rfl'. (LAID: no walk: one application.) -/
theorem Tryz.strings_Fields (s : ByteArray) (w : World) (hs : s.size < 4294967281) (hascii : ∀ (j : Nat) b, s.data.toList[j]? = some b → b.toNat < 128) (htab : Lib.TabIs Tryz.prog w "strings.asciiSpace" .u8 Lib.asciiSpaceTab) :
    Calls Tryz.prog 30 #[.string s] w fun e w' =>
      e = .returned (.slice (some ⟨w.heap.size, 0, none⟩) (Lib.fields s.data.toList).length (Lib.fields s.data.toList).length) ∧ w' = w.alloc (.cells ((Lib.fields s.data.toList).map fun l => Value.string ⟨l.toArray⟩).toArray 9) := Any.strings_Fields Tryz.lays157 (by kernel_rfl) (by kernel_rfl) s w hs hascii htab
end Go.Proofs
