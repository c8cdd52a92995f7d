/- Several small texts of this claim in one. -/
import Derived.Test.YtecjdjdfikcliaaGreatDoorP0
import Derived.Test.YtecjdjdfikcliaaGreatDoorMLexA
import Derived.Test.YtecjdjdfikcliaaGreatDoorMLx
import Derived.Lib.AtoiErrMem
import Derived.Lib.SmallJoins
import Derived.StillTailTactics
section
-- Written by a program (p2.py over the kit's print). Not trusted: Lean checks it.
namespace Go.Proofs.YtecjdjdfikcliaaGreatDoor.P
open Go.RowKit Go.Proofs.YtecjdjdfikcliaaGreatDoorW.PrintWords Go.Proofs.YtecjdjdfikcliaaGreatDoorW.PrintLast Go.Proofs.YtecjdjdfikcliaaGreatDoorW.PrintMore
attribute [local go_sem] max2_int min2_int max_two min_two max_three min_three max_four min_four   -- for this text's walks alone
set_option linter.unusedVariables false
set_option linter.unusedSimpArgs false

/-! ### lex_run: function 43 -/
def lex_run.f (a0 : ByteArray) (a1 : ByteArray) : Option (Int) := (lex_cutLeft.f a0 a1).bind fun t153 => (some (wrap64 ((a0.size : Int) - (t153.size : Int))))
set_option maxHeartbeats 8000000 in
set_option maxRecDepth 100000 in
theorem lex_run.calls (a0 : ByteArray) (a1 : ByteArray) (r : Int) (w : World) (h : lex_run.f a0 a1 = some r) :
    Calls Tryz.prog 43 #[.string a0, .string a1] w fun e w' => e = .returned (.int .i64 r) ∧ Below w.heap.size w w' := by
  have HB := Aside0.mk (Below.refl w.heap.size w)
  have H : ((lex_cutLeft.f a0 a1).bind fun t153 => (some (wrap64 ((a0.size : Int) - (t153.size : Int))))) = some r := h
  clear h
  replace H := Option.bind_eq_some_iff.mp H
  obtain ⟨t153, A30, H⟩ := H
  replace H : (some (wrap64 ((a0.size : Int) - (t153.size : Int)))) = some r := H
  have A3 := Aside0.mk A30
  clear A30
  obtain rfl := Option.some.inj H
  go_enter Tryz.func43, Tryz.ntmps43
  go_wp2_with (first | ((with_reducible refine gate_callee (f := 63) rfl ?_); refine goesL_ (some 9) rfl rfl Tryz.func63 (by kernel_rfl) rfl #[.string a0, .string a1] rfl (by (try simp only [List.map_toArray, List.map_cons, List.map_nil]); first | done | rfl | (simp only [List.length_drop, List.length_take]; rfl) | (simp only [Go.Proofs.YtecjdjdfikcliaaGreatDoor.ba_from_size]; rfl)) ?_; (with_reducible refine (lex_cutLeft.calls a0 a1 t153 _ A3.out).mono ?_); rintro e w4 ⟨rfl, hb⟩; refine ⟨_, rfl, ?_⟩; have n0_ := Aside0.mk (below_step (by repeat (first | (with_reducible first | exact HB.out | apply below_alloc | apply pw_below_drewN | apply below_drew1) | exact HB.out)) hb); clear HB; have HB := n0_; clear n0_; (try clear hb); (try clear hb2); (try clear hk); (try clear hi)))
  go_ret
  exact ⟨by first | rfl | (simp [errW_none, errW_some] <;> rfl) | (simp [*, errW_none, errW_some] <;> rfl), by repeat (first | (with_reducible first | exact HB.out | apply below_alloc | apply pw_below_drewN | apply below_drew1) | exact HB.out)⟩

end Go.Proofs.YtecjdjdfikcliaaGreatDoor.P
end
section
/-
  lex.run: how many bytes at a text's begin are of a set.
-/
namespace Go.Proofs.YtecjdjdfikcliaaGreatDoor
open Go.RowKit

theorem headLen_le (set s : ByteArray) : headLen set s ≤ s.size := by
  unfold headLen
  have := Lx.dropWhile_len (inSet set) s.data.toList
  have e : s.data.toList.length = s.size := rfl
  omega
theorem wrap_small {i : Int} (h0 : -9223372036854775808 ≤ i) (h1 : i ≤ 9223372036854775807) : wrap64 i = i := by
  unfold wrap64
  omega
theorem run_eq (s set : ByteArray) (ha : ascii set = true) (hs : s.size ≤ 9223372036854775807) : P.lex_run.f s set = some ((headLen set s : Nat) : Int) := by
  unfold P.lex_run.f lex_cutLeft.f
  rw [if_pos ha]
  have h := headLen_le set s
  have e : (s.extract (headLen set s) s.size).size = s.size - headLen set s := by
    have := congrArg List.length (bl_from s (headLen set s))
    rw [bl_length, List.length_drop, bl_length] at this
    exact this
  simp only [Option.bind_some, e]
  congr 1
  rw [wrap_small (by omega) (by omega)]
  omega

def setLetter : ByteArray := ⟨#[97, 98, 99, 100, 101, 102, 103, 104, 105, 106, 107, 108, 109, 110, 111, 112, 113, 114, 115, 116, 117, 118, 119, 120, 121, 122, 65, 66, 67, 68, 69, 70, 71, 72, 73, 74, 75, 76, 77, 78, 79, 80, 81, 82, 83, 84, 85, 86, 87, 88, 89, 90, 95, 48, 49, 50, 51, 52, 53, 54, 55, 56, 57]⟩
def setSymbol : ByteArray := ⟨#[43, 45, 42, 47, 92, 94, 60, 62, 61, 126, 58, 46, 63, 64, 35, 38, 36]⟩
def setBlank : ByteArray := ⟨#[32, 9, 13, 10]⟩
theorem ascii_letter : ascii setLetter = true := by decide
theorem ascii_symbol : ascii setSymbol = true := by decide
theorem ascii_blank : ascii setBlank = true := by decide
theorem inSet_letter : inSet setLetter = Lx.letterB := by
  funext b
  unfold inSet Lx.letterB Lx.lowerB Lx.upperB Lx.digitB
  have e : setLetter.data.toList = [97, 98, 99, 100, 101, 102, 103, 104, 105, 106, 107, 108, 109, 110, 111, 112, 113, 114, 115, 116, 117, 118, 119, 120, 121, 122] ++ ([65, 66, 67, 68, 69, 70, 71, 72, 73, 74, 75, 76, 77, 78, 79, 80, 81, 82, 83, 84, 85, 86, 87, 88, 89, 90, 95] ++ [48, 49, 50, 51, 52, 53, 54, 55, 56, 57]) := rfl
  rw [e, List.contains_append, List.contains_append, Bool.or_assoc]
theorem inSet_symbol : inSet setSymbol = Lx.symbolB := rfl
theorem inSet_blank : inSet setBlank = Lx.blankB := rfl
theorem headLen_letter (s : ByteArray) : headLen setLetter s = ((bl s).takeWhile Lx.letterB).length := by unfold headLen; rw [inSet_letter]
theorem headLen_symbol (s : ByteArray) : headLen setSymbol s = ((bl s).takeWhile Lx.symbolB).length := by unfold headLen; rw [inSet_symbol]
theorem headLen_blank (s : ByteArray) : headLen setBlank s = ((bl s).takeWhile Lx.blankB).length := by unfold headLen; rw [inSet_blank]
theorem take_takeWhile {α : Type} (p : α → Bool) (l : List α) : l.take (l.takeWhile p).length = l.takeWhile p := by
  have h := List.takeWhile_append_dropWhile (p := p) (l := l)
  exact (congrArg (List.take (l.takeWhile p).length) h.symm).trans List.take_left
theorem drop_takeWhile {α : Type} (p : α → Bool) (l : List α) : l.drop (l.takeWhile p).length = l.dropWhile p := by
  have h := List.takeWhile_append_dropWhile (p := p) (l := l)
  exact (congrArg (List.drop (l.takeWhile p).length) h.symm).trans List.drop_left
end Go.Proofs.YtecjdjdfikcliaaGreatDoor
end
section
/-
  lex.number: a number's token, or an error.
-/
namespace Go.Proofs.YtecjdjdfikcliaaGreatDoor
open Go.RowKit Go.Proofs.YtecjdjdfikcliaaGreatDoorW.PrintWords

def numOf (l : List UInt8) : Option Int :=
  match Lib.parseIntB 64 (l.takeWhile Lx.letterB) with
  | .ok v => some v
  | _ => none

def lex_number.f (a0 : ByteArray) : Option (Int × ByteArray × Int × Int × Bool × Int × Int) :=
  if a0.size ≤ 140737488355328 then
    match numOf (bl a0) with
    | some v => some (4, ⟨#[]⟩, v, 0, false, (((bl a0).takeWhile Lx.letterB).length : Nat), 0)
    | none => some (0, ⟨#[]⟩, 0, 0, false, 0, 10)
  else none

def NPost (q : Option Int) (n : Nat) (w : World) (e : Ending) (w' : World) : Prop :=
  (match q with
    | some v => e = .returned (.tuple #[.agg #[.int .u8 4, .string ⟨#[]⟩, .int .i64 v, .int .i64 0, .bool false], .int .i64 n, .int .i64 0])
    | none => e = .returned (.tuple #[.agg #[.int .u8 0, .string ⟨#[]⟩, .int .i64 0, .int .i64 0, .bool false], .int .i64 0, .int .i64 10])) ∧ Below w.heap.size w w'

/-- strconv.ParseInt(s, 10, 64), as its caller sees it: the number and nil, or an error. -/
def PIPost (q : Option Int) (w0 : World) (e : Ending) (w' : World) : Prop :=
  (match q with
    | some v => e = .returned (.tuple #[.int .i64 v, .nilIface])
    | none => ∃ n t a, e = .returned (.tuple #[.int .i64 n, .iface t (.pointer (some a))])) ∧ Below w0.heap.size w0 w'
theorem parseInt_any (s : ByteArray) (hs : s.size ≤ 140737488355328) (W : World) (hL : LaidE W) (q : Option Int)
    (hq : q = match Lib.parseIntB 64 s.data.toList with | .ok v => some v | _ => none) :
    Calls Tryz.prog 67 #[.string s, .int .i64 10, .int .i64 64] W (PIPost q W) := by
  obtain ⟨_, ⟨t1, p1, h1⟩, ⟨t2, p2, h2⟩⟩ := hL
  rcases hp : Lib.parseIntB 64 s.data.toList with v | _ | _
  · rw [hp] at hq
    subst hq
    refine (Tryz.strconv_ParseInt_10_at64_ok s (by omega) v hp W).mono ?_
    rintro e w' ⟨rfl, h⟩
    refine ⟨rfl, ?_⟩
    rcases h with rfl | ⟨t, rfl⟩
    · exact Below.refl _ _
    · exact Lib.bytesWorld_below _ _ _
  · rw [hp] at hq
    subst hq
    refine (Tryz.strconv_ParseInt_10_at64_syntax_var s (by omega) hp t1 p1 W h1).mono ?_
    rintro e w' ⟨N, rfl, _, _, hb⟩
    exact ⟨⟨_, _, _, rfl⟩, hb⟩
  · rw [hp] at hq
    subst hq
    refine (Tryz.strconv_ParseInt_10_at64_range_var s (by omega) hp t2 p2 W h2).mono ?_
    rintro e w' ⟨N, rfl, _, _, hb⟩
    exact ⟨⟨_, _, _, rfl⟩, hb⟩

set_option maxHeartbeats 2000000 in
set_option maxRecDepth 100000 in
theorem lex_number.walk (s : ByteArray) (w : World) (hL : LaidE w) (hs : s.size ≤ 140737488355328) :
    Calls Tryz.prog 47 #[.string s] w (NPost (numOf (bl s)) ((bl s).takeWhile Lx.letterB).length w) := by
  obtain ⟨q, hq⟩ : ∃ q, numOf (bl s) = q := ⟨_, rfl⟩
  rw [hq]
  have hr := run_eq s setLetter ascii_letter (by omega)
  have hle := headLen_le setLetter s
  rw [headLen_letter] at hr hle
  have hq1 : q = match Lib.parseIntB 64 (s.extract 0 ((bl s).takeWhile Lx.letterB).length).data.toList with | .ok v => some v | _ => none := by
    rw [← hq]
    unfold numOf
    have e : (s.extract 0 ((bl s).takeWhile Lx.letterB).length).data.toList = (bl s).takeWhile Lx.letterB := by
      have := bl_extract s 0 ((bl s).takeWhile Lx.letterB).length
      rw [take_takeWhile] at this
      exact this
    rw [e]
  have hsz : (s.extract 0 ((bl s).takeWhile Lx.letterB).length).size ≤ 140737488355328 := by
    have := congrArg List.length (bl_extract s 0 ((bl s).takeWhile Lx.letterB).length)
    simp only [bl_length, List.drop_zero, List.length_take] at this
    omega
  generalize ((bl s).takeWhile Lx.letterB).length = n at *
  have HR := Lib.hid hr
  have HQ1 := Lib.hid hq1
  have HSZ := Lib.hid hsz
  have HLL := Lib.hid hL
  clear hr hq1 hq hsz hL
  go_enter Tryz.func47, Tryz.ntmps47
  go_wp2_with fail
  refine (P.lex_run.calls s setLetter (n : Int) _ HR.out).mono ?_
  rintro e w1 ⟨rfl, hb1⟩
  have hbw : Below w.heap.size w w1 := ((Below.refl _ w).alloc (Nat.le_refl _) _).trans (hb1.mono (by simp))
  have hcell : ∀ o, o < 5 → w1.cell? ⟨w.heap.size, o, none⟩ = (w.alloc (.cells #[.int .u8 0, .string ⟨#[]⟩, .int .i64 0, .int .i64 0, .bool false] 62)).cell? ⟨w.heap.size, o, none⟩ := fun o _ => hb1.cell (by simp)
  go_wp2_with fail
  refine (parseInt_any _ HSZ.out _ (HLL.out.below hbw) q HQ1.out).mono ?_
  rintro e w2 ⟨hq, hb2⟩
  have hbw2 := hbw.trans (hb2.mono hbw.size)
  have hblk : w2.heap[w.heap.size]? = some (.cells #[.int .u8 0, .string ⟨#[]⟩, .int .i64 0, .int .i64 0, .bool false] 62) := by
    have s1 := hb1.size
    simp at s1
    rw [hb2.block _ (by omega), hb1.block _ (by simp)]
    exact heap_alloc_new w _
  have hlt : w.heap.size < w2.heap.size := (Array.getElem?_eq_some_iff.1 hblk).1
  clear hb1 hcell
  have hc0 : w2.cell? ⟨w.heap.size, 0, none⟩ = some (.int .u8 0) := by simp [World.cell?, hblk]
  have hc1 : w2.cell? ⟨w.heap.size, 1, none⟩ = some (.string ⟨#[]⟩) := by simp [World.cell?, hblk]
  have hc2 : w2.cell? ⟨w.heap.size, 2, none⟩ = some (.int .i64 0) := by simp [World.cell?, hblk]
  have hc3 : w2.cell? ⟨w.heap.size, 3, none⟩ = some (.int .i64 0) := by simp [World.cell?, hblk]
  have hc4 : w2.cell? ⟨w.heap.size, 4, none⟩ = some (.bool false) := by simp [World.cell?, hblk]
  have hf : ∀ o, w2.frozen? ⟨w.heap.size, o, none⟩ = false := by intro o; simp [World.frozen?, hblk]
  have hf0 := hf 0
  have hf1 := hf 1
  have hf2 := hf 2
  have hf3 := hf 3
  have hf4 := hf 4
  clear hf
  cases q with
  | some v =>
    obtain rfl := hq
    go_wp2
    refine bodyPost_ret (results_ctt rfl _ _ w.heap.size 62 #[.int .u8 4, .string ⟨#[]⟩, .int .i64 v, .int .i64 0, .bool false] (0, 0) _ rfl (blk_put (blk_put (blk_put (blk_put (blk_put hblk 0 _ rfl) 1 _ rfl) 2 _ rfl) 3 _ rfl) 4 _ rfl) Tryz.underlying62 rfl (by kernel_rfl)) rfl ?_
    exact ⟨rfl, below_set (below_set (below_set (below_set (below_set hbw2 (Nat.le_refl _)) (Nat.le_refl _)) (Nat.le_refl _)) (Nat.le_refl _)) (Nat.le_refl _)⟩
  | none =>
    obtain ⟨n1, t1, a1, rfl⟩ := hq
    go_wp2
    refine bodyPost_ret (results_ctt rfl _ _ w.heap.size 62 #[.int .u8 0, .string ⟨#[]⟩, .int .i64 0, .int .i64 0, .bool false] (0, 0) _ rfl (blk_put (blk_put (blk_put (blk_put (blk_put hblk 0 _ rfl) 1 _ rfl) 2 _ rfl) 3 _ rfl) 4 _ rfl) Tryz.underlying62 rfl (by kernel_rfl)) rfl ?_
    exact ⟨rfl, below_set (below_set (below_set (below_set (below_set hbw2 (Nat.le_refl _)) (Nat.le_refl _)) (Nat.le_refl _)) (Nat.le_refl _)) (Nat.le_refl _)⟩

theorem lex_number.calls (a0 : ByteArray) (r1 : Int) (r2 : ByteArray) (r3 r4 : Int) (r5 : Bool) (r6 r7 : Int) (w : World) (hL : LaidE w) (h : lex_number.f a0 = some (r1, r2, r3, r4, r5, r6, r7)) :
    Calls Tryz.prog 47 #[.string a0] w fun e w' => e = .returned (.tuple #[.agg #[.int .u8 r1, .string r2, .int .i64 r3, .int .i64 r4, .bool r5], .int .i64 r6, .int .i64 r7]) ∧ Below w.heap.size w w' := by
  unfold lex_number.f at h
  split at h
  · refine (lex_number.walk a0 w hL (by assumption)).mono ?_
    intro e w' ⟨he, hb⟩
    refine ⟨?_, hb⟩
    split at h <;> rename_i hq <;> rw [hq] at he <;> simp only [Option.some.injEq, Prod.mk.injEq] at h <;> obtain ⟨rfl, rfl, rfl, rfl, rfl, rfl, rfl⟩ := h <;> exact he
  · cases h
end Go.Proofs.YtecjdjdfikcliaaGreatDoor
end
section
/-
  The lexer's closures: each takes one token off a text's begin.
-/
namespace Go.Proofs.YtecjdjdfikcliaaGreatDoor
open Go.RowKit Go.Proofs.YtecjdjdfikcliaaGreatDoorW.PrintWords

/-- What a rule's function tells: a token, how many bytes it takes, an error's number. -/
def TPost (k : Int) (t : ByteArray) (n : Int) (len e1 : Int) (w : World) (e : Ending) (w' : World) : Prop :=
  e = .returned (.tuple #[.agg #[.int .u8 k, .string t, .int .i64 n, .int .i64 0, .bool false], .int .i64 len, .int .i64 e1]) ∧ Below w.heap.size w w'

theorem tok_cells {w : World} {B : Nat} {k : Value} {t n a o : Value} (h : w.heap[B]? = some (.cells #[k, t, n, a, o] 62 (0, 0))) :
    (w.cell? ⟨B, 0, none⟩ = some k ∧ w.cell? ⟨B, 1, none⟩ = some t ∧ w.cell? ⟨B, 2, none⟩ = some n ∧ w.cell? ⟨B, 3, none⟩ = some a ∧ w.cell? ⟨B, 4, none⟩ = some o) ∧
    (w.frozen? ⟨B, 0, none⟩ = false ∧ w.frozen? ⟨B, 1, none⟩ = false ∧ w.frozen? ⟨B, 2, none⟩ = false ∧ w.frozen? ⟨B, 3, none⟩ = false ∧ w.frozen? ⟨B, 4, none⟩ = false) := by
  simp [World.cell?, World.frozen?, h]

theorem tok_end {w1 : World} {B : Nat} (h : w1.heap[B]? = some (.cells #[.int .u8 0, .string ⟨#[]⟩, .int .i64 0, .int .i64 0, .bool false] 62 (0, 0))) (k t n a o : Value) :
    (((((w1.setCell ⟨B, 0, none⟩ k).setCell ⟨B, 1, none⟩ t).setCell ⟨B, 2, none⟩ n).setCell ⟨B, 3, none⟩ a).setCell ⟨B, 4, none⟩ o).heap[B]? = some (.cells #[k, t, n, a, o] 62 (0, 0)) :=
  blk_put (blk_put (blk_put (blk_put (blk_put (cs := #[.int .u8 0, .string ⟨#[]⟩, .int .i64 0, .int .i64 0, .bool false]) h 0 _ rfl) 1 _ rfl) 2 _ rfl) 3 _ rfl) 4 _ rfl

set_option maxHeartbeats 2000000 in
set_option maxRecDepth 100000 in
theorem of_walk (s set : ByteArray) (k : Int) (ps pk : Addr) (w : World) (ha : ascii set = true) (hs : s.size ≤ 140737488355328)
    (h1 : w.cell? ps = some (.string set)) (h2 : w.cell? pk = some (.int .u8 k)) :
    Calls Tryz.prog 66 #[.string s, .pointer (some ps), .pointer (some pk)] w (TPost k (s.extract 0 (headLen set s)) 0 (headLen set s : Nat) 0 w) := by
  have hr := run_eq s set ha (by omega)
  have hle := headLen_le set s
  generalize headLen set s = n at *
  have HR := Lib.hid hr
  have HA := Lib.hid ha
  clear hr ha
  have hl1 := World.block_lt_of_cell? w _ h1
  have hl2 := World.block_lt_of_cell? w _ h2
  go_enter Tryz.func66, Tryz.ntmps66
  go_wp2_with fail
  refine (P.lex_run.calls s set (n : Int) _ HR.out).mono ?_
  rintro e w1 ⟨rfl, hb1⟩
  have hbw : Below w.heap.size w w1 := ((Below.refl _ w).alloc (Nat.le_refl _) _).trans (hb1.mono (by simp))
  have hblk : w1.heap[w.heap.size]? = some (.cells #[.int .u8 0, .string ⟨#[]⟩, .int .i64 0, .int .i64 0, .bool false] 62) := by
    rw [hb1.block _ (by simp)]
    exact heap_alloc_new w _
  have hlt : w.heap.size < w1.heap.size := (Array.getElem?_eq_some_iff.1 hblk).1
  clear hb1
  obtain ⟨⟨hc0, hc1, hc2, hc3, hc4⟩, hf0, hf1, hf2, hf3, hf4⟩ := tok_cells hblk
  have hk := (hbw.cell (p := pk) hl2).trans h2
  have hk1 := (hbw.cell (p := ps) hl1).trans h1
  go_wp2
  have hb2 : decide ((n : Int) ≤ (s.size : Int)) = true := by simp; omega
  go_region
  go_wp2
  refine bodyPost_ret (results_ctt rfl _ _ w.heap.size 62 #[.int .u8 k, .string (s.extract 0 n), .int .i64 0, .int .i64 0, .bool false] (0, 0) _ rfl (by (with_reducible repeat (first | refine blk_drewN ?_ _ | refine blk_drew ?_)); exact tok_end hblk _ _ _ _ _) Tryz.underlying62 rfl (by kernel_rfl)) rfl ?_
  refine ⟨?_, by repeat (first | exact hbw | apply below_drew1 | refine below_set ?_ (Nat.le_refl _))⟩
  rfl

set_option maxHeartbeats 2000000 in
set_option maxRecDepth 100000 in
theorem one_walk (s : ByteArray) (k : Int) (pk : Addr) (w : World) (hs : 1 ≤ s.size)
    (h2 : w.cell? pk = some (.int .u8 k)) :
    Calls Tryz.prog 68 #[.string s, .pointer (some pk)] w (TPost k (s.extract 0 1) 0 1 0 w) := by
  have hl2 := World.block_lt_of_cell? w _ h2
  have hbw : Below w.heap.size w (w.alloc (.cells #[.int .u8 0, .string ⟨#[]⟩, .int .i64 0, .int .i64 0, .bool false] 62)) := (Below.refl _ w).alloc (Nat.le_refl _) _
  have hblk := heap_alloc_new w (.cells #[.int .u8 0, .string ⟨#[]⟩, .int .i64 0, .int .i64 0, .bool false] 62)
  have hk := (hbw.cell (p := pk) hl2).trans h2
  have hsz := w.size_alloc (.cells #[.int .u8 0, .string ⟨#[]⟩, .int .i64 0, .int .i64 0, .bool false] 62)
  go_enter Tryz.func68, Tryz.ntmps68
  go_wp2
  generalize w.alloc (.cells #[.int .u8 0, .string ⟨#[]⟩, .int .i64 0, .int .i64 0, .bool false] 62) = w1 at *
  obtain ⟨⟨hc0, hc1, hc2, hc3, hc4⟩, hf0, hf1, hf2, hf3, hf4⟩ := tok_cells hblk
  have hlt : w.heap.size < w1.heap.size := by omega
  clear hsz
  have hb2 : decide (1 ≤ s.size) = true := by simp; omega
  go_region
  go_wp2
  refine bodyPost_ret (results_ctt rfl _ _ w.heap.size 62 #[.int .u8 k, .string (s.extract 0 1), .int .i64 0, .int .i64 0, .bool false] (0, 0) _ rfl (by (with_reducible repeat (first | refine blk_drewN ?_ _ | refine blk_drew ?_)); exact tok_end hblk _ _ _ _ _) Tryz.underlying62 rfl (by kernel_rfl)) rfl ?_
  refine ⟨?_, by repeat (first | exact hbw | apply below_drew1 | refine below_set ?_ (Nat.le_refl _))⟩
  rfl

set_option maxHeartbeats 2000000 in
set_option maxRecDepth 100000 in
theorem quote_walk (s : ByteArray) (w : World) (t : ByteArray) (n e1 : Int) (hq : lex_quoted.f s = some (t, n, e1)) :
    Calls Tryz.prog 50 #[.string s] w (TPost 2 t 0 n e1 w) := by
  have HQ := Lib.hid hq
  clear hq
  go_enter Tryz.func50, Tryz.ntmps50
  go_wp2_with fail
  refine (lex_quoted.calls s t n e1 _ HQ.out).mono ?_
  rintro e w1 ⟨rfl, hb1⟩
  have hbw : Below w.heap.size w w1 := ((Below.refl _ w).alloc (Nat.le_refl _) _).trans (hb1.mono (by simp))
  have hblk : w1.heap[w.heap.size]? = some (.cells #[.int .u8 0, .string ⟨#[]⟩, .int .i64 0, .int .i64 0, .bool false] 62) := by
    rw [hb1.block _ (by simp)]
    exact heap_alloc_new w _
  have hlt : w.heap.size < w1.heap.size := (Array.getElem?_eq_some_iff.1 hblk).1
  clear hb1
  obtain ⟨⟨hc0, hc1, hc2, hc3, hc4⟩, hf0, hf1, hf2, hf3, hf4⟩ := tok_cells hblk
  go_wp2
  refine bodyPost_ret (results_ctt rfl _ _ w.heap.size 62 #[.int .u8 2, .string t, .int .i64 0, .int .i64 0, .bool false] (0, 0) _ rfl (by (with_reducible repeat (first | refine blk_drewN ?_ _ | refine blk_drew ?_)); exact tok_end hblk _ _ _ _ _) Tryz.underlying62 rfl (by kernel_rfl)) rfl ?_
  refine ⟨?_, by repeat (first | exact hbw | apply below_drew1 | refine below_set ?_ (Nat.le_refl _))⟩
  rfl
end Go.Proofs.YtecjdjdfikcliaaGreatDoor
end
section
/-
  lex.rules: the seven rules, as they lie in memory.
-/
namespace Go.Proofs.YtecjdjdfikcliaaGreatDoor
open Go.RowKit Go.Proofs.YtecjdjdfikcliaaGreatDoorW.PrintWords

def bLower : ByteArray := ⟨#[97, 98, 99, 100, 101, 102, 103, 104, 105, 106, 107, 108, 109, 110, 111, 112, 113, 114, 115, 116, 117, 118, 119, 120, 121, 122]⟩
def bUpper : ByteArray := ⟨#[65, 66, 67, 68, 69, 70, 71, 72, 73, 74, 75, 76, 77, 78, 79, 80, 81, 82, 83, 84, 85, 86, 87, 88, 89, 90, 95]⟩
def bDigit : ByteArray := ⟨#[48, 49, 50, 51, 52, 53, 54, 55, 56, 57]⟩
def bSign : ByteArray := ⟨#[40, 41, 91, 93, 44, 124]⟩
def bBang : ByteArray := ⟨#[33, 59]⟩
def bQuote : ByteArray := ⟨#[39]⟩

/-- The rules in memory: a row of seven, each the bytes that it begins with and its function; what the functions have captured. -/
structure RulesAt (w : World) (g : Nat) (s0 k0 s1 k1 k3 k4 : Addr) : Prop where
  row : w.heap[g]? = some (.cells #[.string bLower, .func (.func 66) #[] #[.pointer (some s0), .pointer (some k0)], .string bUpper, .func (.func 66) #[] #[.pointer (some s1), .pointer (some k1)],
    .string bDigit, .func (.func 47) #[] #[], .string bSign, .func (.func 68) #[] #[.pointer (some k3)], .string bBang, .func (.func 68) #[] #[.pointer (some k4)],
    .string setSymbol, .func (.func 49) #[] #[], .string bQuote, .func (.func 50) #[] #[]] 79 (0, 0))
  c0 : w.cell? s0 = some (.string setLetter)
  d0 : w.cell? k0 = some (.int .u8 1)
  c1 : w.cell? s1 = some (.string setLetter)
  d1 : w.cell? k1 = some (.int .u8 3)
  d3 : w.cell? k3 = some (.int .u8 5)
  d4 : w.cell? k4 = some (.int .u8 1)

theorem RulesAt.below {w w' : World} {g : Nat} {s0 k0 s1 k1 k3 k4 : Addr} (h : RulesAt w g s0 k0 s1 k1 k3 k4) (hb : Below w.heap.size w w') : RulesAt w' g s0 k0 s1 k1 k3 k4 :=
  ⟨blk_below h.row hb, pw_cell_below hb h.c0, pw_cell_below hb h.d0, pw_cell_below hb h.c1, pw_cell_below hb h.d1, pw_cell_below hb h.d3, pw_cell_below hb h.d4⟩

theorem seven (w : World) (o0 o1 o2 o3 o4 o5 o6 : Obj) :
    let W := ((((((w.alloc o0).alloc o1).alloc o2).alloc o3).alloc o4).alloc o5).alloc o6
    W.heap[w.heap.size]? = some o0 ∧ W.heap[w.heap.size + 1]? = some o1 ∧ W.heap[w.heap.size + 2]? = some o2 ∧ W.heap[w.heap.size + 3]? = some o3 ∧ W.heap[w.heap.size + 4]? = some o4 ∧ W.heap[w.heap.size + 5]? = some o5 ∧ W.heap[w.heap.size + 6]? = some o6 := by
  intro W
  have at_ : ∀ (V : World) (o : Obj) (n : Nat), V.heap.size = n → (V.alloc o).heap[n]? = some o := fun V o n h => h ▸ blk_new V o
  refine ⟨?_, ?_, ?_, ?_, ?_, ?_, ?_⟩
  · exact blk_alloc (blk_alloc (blk_alloc (blk_alloc (blk_alloc (blk_alloc (at_ _ _ _ rfl) _) _) _) _) _) _
  · exact blk_alloc (blk_alloc (blk_alloc (blk_alloc (blk_alloc (at_ _ _ _ (by simp)) _) _) _) _) _
  · exact blk_alloc (blk_alloc (blk_alloc (blk_alloc (at_ _ _ _ (by simp)) _) _) _) _
  · exact blk_alloc (blk_alloc (blk_alloc (at_ _ _ _ (by simp)) _) _) _
  · exact blk_alloc (blk_alloc (at_ _ _ _ (by simp)) _) _
  · exact blk_alloc (at_ _ _ _ (by simp)) _
  · exact at_ _ _ _ (by simp)
theorem cell_one {w : World} {b : Nat} {v : Value} {t : TypeId} (h : w.heap[b]? = some (.cells #[v] t (0, 0))) : w.cell? ⟨b, 0, none⟩ = some v := blk_cell h 0
set_option maxRecDepth 100000 in
theorem of_make (k : Int) (set : ByteArray) (w : World) :
    Calls Tryz.prog 46 #[.int .u8 k, .string set] w fun e w' => e = .returned (.func (.func 66) #[] #[.pointer (some ⟨w.heap.size + 1, 0, none⟩), .pointer (some ⟨w.heap.size, 0, none⟩)]) ∧ (w.alloc (.cells #[.int .u8 k] 5)).alloc (.cells #[.string set] 9) = w' := by
  go_enter Tryz.func46, Tryz.ntmps46
  go_wp2
  go_ret
  exact ⟨rfl, rfl⟩
set_option maxRecDepth 100000 in
theorem one_make (k : Int) (w : World) :
    Calls Tryz.prog 48 #[.int .u8 k] w fun e w' => e = .returned (.func (.func 68) #[] #[.pointer (some ⟨w.heap.size, 0, none⟩)]) ∧ w.alloc (.cells #[.int .u8 k] 5) = w' := by
  go_enter Tryz.func48, Tryz.ntmps48
  go_wp2
  go_ret
  exact ⟨rfl, rfl⟩

set_option maxHeartbeats 4000000 in
set_option maxRecDepth 100000 in
theorem rules_walk (w : World) :
    Calls Tryz.prog 32 #[] w fun e w' => ∃ g s0 k0 s1 k1 k3 k4, e = .returned (.slice (some ⟨g, 0, none⟩) 7 7) ∧ RulesAt w' g s0 k0 s1 k1 k3 k4 ∧ Below w.heap.size w w' ∧ w.heap.size ≤ g := by
  go_enter Tryz.func32, Tryz.ntmps32
  go_wp2_with fail
  refine (of_make 1 _ _).mono ?_
  rintro e w1 ⟨rfl, rfl⟩
  go_wp2_with fail
  refine (of_make 3 _ _).mono ?_
  rintro e w1 ⟨rfl, rfl⟩
  go_wp2_with fail
  refine (one_make 5 _).mono ?_
  rintro e w1 ⟨rfl, rfl⟩
  go_wp2_with fail
  refine (one_make 1 _).mono ?_
  rintro e w1 ⟨rfl, rfl⟩
  go_wp2
  go_ret
  refine ⟨w.heap.size + 6, ⟨w.heap.size + 1, 0, none⟩, ⟨w.heap.size, 0, none⟩, ⟨w.heap.size + 3, 0, none⟩, ⟨w.heap.size + 2, 0, none⟩, ⟨w.heap.size + 4, 0, none⟩, ⟨w.heap.size + 5, 0, none⟩, rfl, ?_, ?_, by omega⟩
  · obtain ⟨h0, h1, h2, h3, h4, h5, h6⟩ := seven w _ _ _ _ _ _ _
    exact ⟨h6, cell_one h1, cell_one h0, cell_one h3, cell_one h2, cell_one h4, cell_one h5⟩
  · exact ((((((((Below.refl _ w).alloc (Nat.le_refl _) _).alloc (by simp <;> omega) _).alloc (by simp <;> omega) _).alloc (by simp <;> omega) _).alloc (by simp <;> omega) _).alloc (by simp <;> omega) _).alloc (by simp <;> omega) _)
end Go.Proofs.YtecjdjdfikcliaaGreatDoor
end
