/-
  Plain facts on strings that are ranged over: the decoded rune of a byte below 128 is that byte; of another it is 128 or more.
-/
import Derived.WalkKit
import Derived.WalkSmall
import Derived.WalkSpells
import Derived.WalkLawsBesides
import Derived.Lib.OthersKept
import Derived.Lib.Hide
import Derived.Deep.QuietTactic
import Derived.BigQuiet
import Derived.Deep.LoopGhost
import Derived.Deep.DeepFit
import Derived.Deep.DeepCutAuto
namespace Go.Proofs.YtecjdjdfikcliaaGreatDoor
open Go.RowKit

/-- The bytes of a string, as a list. -/
abbrev bl (s : ByteArray) : List UInt8 := s.data.toList

/-- The rune at a place is one of a set of ASCII bytes just where the byte is, and then it is one byte long. -/
theorem decode_lo (s : ByteArray) (pos : Nat) (h : pos < s.size) (ha : (s[pos]'h).toNat < 128) : Utf8.decode s pos = ((s[pos]'h).toNat, 1) := decode_ascii s pos h ha

theorem decode_hi (s : ByteArray) (pos : Nat) (h : pos < s.size) (ha : ¬ (s[pos]'h).toNat < 128) : 128 ≤ (Utf8.decode s pos).1 ∧ 1 ≤ (Utf8.decode s pos).2 := decode_high s pos h (by omega)

theorem bl_length (s : ByteArray) : (bl s).length = s.size := rfl
theorem bl_get (s : ByteArray) (i : Nat) (h : i < s.size) : (bl s)[i]'(by simpa [bl] using h) = s[i] := rfl
theorem bl_extract (s : ByteArray) (a b : Nat) : bl (s.extract a b) = ((bl s).take b).drop a := by
  simp [bl, ByteArray.data_extract, Array.toList_extract, List.extract_eq_take_drop, List.drop_take]
theorem bl_from (s : ByteArray) (a : Nat) : bl (s.extract a s.size) = (bl s).drop a := by
  rw [bl_extract, List.take_of_length_le (Nat.le_of_eq (bl_length s))]
theorem ba_from_size (s : ByteArray) (a : Nat) : (s.extract a s.size).size = s.size - a := by
  have := congrArg List.length (bl_from s a)
  rw [bl_length, List.length_drop, bl_length] at this
  exact this
theorem bl_ext {s t : ByteArray} (h : bl s = bl t) : s = t := by
  cases s; cases t; simp only [bl] at h; congr; exact Array.ext' h
end Go.Proofs.YtecjdjdfikcliaaGreatDoor
