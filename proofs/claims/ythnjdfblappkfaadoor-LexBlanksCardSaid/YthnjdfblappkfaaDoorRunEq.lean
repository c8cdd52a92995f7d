/-
  lex.run: how many bytes at a text's begin are of a set.
-/
import Derived.Test.YthnjdfblappkfaaDoorCut
import Derived.Test.YthnjdfblappkfaaDoorLx
import Derived.Test.YthnjdfblappkfaaDoorPlexrun
namespace Go.Proofs.YthnjdfblappkfaaDoor
open Go.RowKit

theorem headLen_le (set s : ByteArray) : headLen set s ≤ s.size := by
  unfold headLen
  have := Lx.dropWhile_len (inSet set) s.data.toList
  have e : s.data.toList.length = s.size := rfl
  omega
theorem wrap_small {i : Int} (h0 : -9223372036854775808 ≤ i) (h1 : i ≤ 9223372036854775807) : wrap64 i = i := by
  unfold wrap64
  omega
theorem run_eq (s set : ByteArray) (ha : ascii set = true) (hs : s.size ≤ 9223372036854775807) : P.lex_run.f s set = some ((headLen set s : Nat) : Int) := by
  unfold P.lex_run.f lex_cutLeft.f
  rw [if_pos ha]
  have h := headLen_le set s
  have e : (s.extract (headLen set s) s.size).size = s.size - headLen set s := by
    have := congrArg List.length (bl_from s (headLen set s))
    rw [bl_length, List.length_drop, bl_length] at this
    exact this
  simp only [Option.bind_some, e]
  congr 1
  rw [wrap_small (by omega) (by omega)]
  omega

def setLetter : ByteArray := ⟨#[97, 98, 99, 100, 101, 102, 103, 104, 105, 106, 107, 108, 109, 110, 111, 112, 113, 114, 115, 116, 117, 118, 119, 120, 121, 122, 65, 66, 67, 68, 69, 70, 71, 72, 73, 74, 75, 76, 77, 78, 79, 80, 81, 82, 83, 84, 85, 86, 87, 88, 89, 90, 95, 48, 49, 50, 51, 52, 53, 54, 55, 56, 57]⟩
def setSymbol : ByteArray := ⟨#[43, 45, 42, 47, 92, 94, 60, 62, 61, 126, 58, 46, 63, 64, 35, 38, 36]⟩
def setBlank : ByteArray := ⟨#[32, 9, 13, 10]⟩
theorem ascii_letter : ascii setLetter = true := by decide
theorem ascii_symbol : ascii setSymbol = true := by decide
theorem ascii_blank : ascii setBlank = true := by decide
theorem inSet_letter : inSet setLetter = Lx.letterB := by
  funext b
  unfold inSet Lx.letterB Lx.lowerB Lx.upperB Lx.digitB
  have e : setLetter.data.toList = [97, 98, 99, 100, 101, 102, 103, 104, 105, 106, 107, 108, 109, 110, 111, 112, 113, 114, 115, 116, 117, 118, 119, 120, 121, 122] ++ ([65, 66, 67, 68, 69, 70, 71, 72, 73, 74, 75, 76, 77, 78, 79, 80, 81, 82, 83, 84, 85, 86, 87, 88, 89, 90, 95] ++ [48, 49, 50, 51, 52, 53, 54, 55, 56, 57]) := rfl
  rw [e, List.contains_append, List.contains_append, Bool.or_assoc]
theorem inSet_symbol : inSet setSymbol = Lx.symbolB := rfl
theorem inSet_blank : inSet setBlank = Lx.blankB := rfl
theorem headLen_letter (s : ByteArray) : headLen setLetter s = ((bl s).takeWhile Lx.letterB).length := by unfold headLen; rw [inSet_letter]
theorem headLen_symbol (s : ByteArray) : headLen setSymbol s = ((bl s).takeWhile Lx.symbolB).length := by unfold headLen; rw [inSet_symbol]
theorem headLen_blank (s : ByteArray) : headLen setBlank s = ((bl s).takeWhile Lx.blankB).length := by unfold headLen; rw [inSet_blank]
theorem take_takeWhile {α : Type} (p : α → Bool) (l : List α) : l.take (l.takeWhile p).length = l.takeWhile p := by
  have h := List.takeWhile_append_dropWhile (p := p) (l := l)
  exact (congrArg (List.take (l.takeWhile p).length) h.symm).trans List.take_left
theorem drop_takeWhile {α : Type} (p : α → Bool) (l : List α) : l.drop (l.takeWhile p).length = l.dropWhile p := by
  have h := List.takeWhile_append_dropWhile (p := p) (l := l)
  exact (congrArg (List.drop (l.takeWhile p).length) h.symm).trans List.drop_left
end Go.Proofs.YthnjdfblappkfaaDoor
