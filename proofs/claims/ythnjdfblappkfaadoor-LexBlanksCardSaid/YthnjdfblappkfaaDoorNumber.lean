/-
  lex.number: a number's token, or an error.
-/
import Derived.Test.YthnjdfblappkfaaDoorLib1
import Derived.Test.YthnjdfblappkfaaDoorRunEq
import Derived.Lib.AtoiErrMem
import Derived.Lib.SmallJoins
namespace Go.Proofs.YthnjdfblappkfaaDoor
open Go.RowKit Go.Proofs.YthnjdfblappkfaaDoorW.PrintWords

def numOf (l : List UInt8) : Option Int :=
  match Lib.parseIntB 64 (l.takeWhile Lx.letterB) with
  | .ok v => some v
  | _ => none

def lex_number.f (a0 : ByteArray) : Option (Int × ByteArray × Int × Int × Bool × Int × Int) :=
  if a0.size ≤ 140737488355328 then
    match numOf (bl a0) with
    | some v => some (4, ⟨#[]⟩, v, 0, false, (((bl a0).takeWhile Lx.letterB).length : Nat), 0)
    | none => some (0, ⟨#[]⟩, 0, 0, false, 0, 10)
  else none

def NPost (q : Option Int) (n : Nat) (w : World) (e : Ending) (w' : World) : Prop :=
  (match q with
    | some v => e = .returned (.tuple #[.agg #[.int .u8 4, .string ⟨#[]⟩, .int .i64 v, .int .i64 0, .bool false], .int .i64 n, .int .i64 0])
    | none => e = .returned (.tuple #[.agg #[.int .u8 0, .string ⟨#[]⟩, .int .i64 0, .int .i64 0, .bool false], .int .i64 0, .int .i64 10])) ∧ Below w.heap.size w w'

/-- strconv.ParseInt(s, 10, 64), as its caller sees it: the number and nil, or an error. -/
def PIPost (q : Option Int) (w0 : World) (e : Ending) (w' : World) : Prop :=
  (match q with
    | some v => e = .returned (.tuple #[.int .i64 v, .nilIface])
    | none => ∃ n t a, e = .returned (.tuple #[.int .i64 n, .iface t (.pointer (some a))])) ∧ Below w0.heap.size w0 w'
theorem parseInt_any (s : ByteArray) (hs : s.size ≤ 140737488355328) (W : World) (hL : LaidE W) (q : Option Int)
    (hq : q = match Lib.parseIntB 64 s.data.toList with | .ok v => some v | _ => none) :
    Calls Tryd.prog 114 #[.string s, .int .i64 10, .int .i64 64] W (PIPost q W) := by
  obtain ⟨_, ⟨t1, p1, h1⟩, ⟨t2, p2, h2⟩⟩ := hL
  rcases hp : Lib.parseIntB 64 s.data.toList with v | _ | _
  · rw [hp] at hq
    subst hq
    refine (Tryd.strconv_ParseInt_10_at64_ok s (by omega) v hp W).mono ?_
    rintro e w' ⟨rfl, h⟩
    refine ⟨rfl, ?_⟩
    rcases h with rfl | ⟨t, rfl⟩
    · exact Below.refl _ _
    · exact Lib.bytesWorld_below _ _ _
  · rw [hp] at hq
    subst hq
    refine (Tryd.strconv_ParseInt_10_at64_syntax_var s (by omega) hp t1 p1 W h1).mono ?_
    rintro e w' ⟨N, rfl, _, _, hb⟩
    exact ⟨⟨_, _, _, rfl⟩, hb⟩
  · rw [hp] at hq
    subst hq
    refine (Tryd.strconv_ParseInt_10_at64_range_var s (by omega) hp t2 p2 W h2).mono ?_
    rintro e w' ⟨N, rfl, _, _, hb⟩
    exact ⟨⟨_, _, _, rfl⟩, hb⟩

set_option maxHeartbeats 2000000 in
set_option maxRecDepth 100000 in
theorem lex_number.walk (s : ByteArray) (w : World) (hL : LaidE w) (hs : s.size ≤ 140737488355328) :
    Calls Tryd.prog 85 #[.string s] w (NPost (numOf (bl s)) ((bl s).takeWhile Lx.letterB).length w) := by
  obtain ⟨q, hq⟩ : ∃ q, numOf (bl s) = q := ⟨_, rfl⟩
  rw [hq]
  have hr := run_eq s setLetter ascii_letter (by omega)
  have hle := headLen_le setLetter s
  rw [headLen_letter] at hr hle
  have hq1 : q = match Lib.parseIntB 64 (s.extract 0 ((bl s).takeWhile Lx.letterB).length).data.toList with | .ok v => some v | _ => none := by
    rw [← hq]
    unfold numOf
    have e : (s.extract 0 ((bl s).takeWhile Lx.letterB).length).data.toList = (bl s).takeWhile Lx.letterB := by
      have := bl_extract s 0 ((bl s).takeWhile Lx.letterB).length
      rw [take_takeWhile] at this
      exact this
    rw [e]
  have hsz : (s.extract 0 ((bl s).takeWhile Lx.letterB).length).size ≤ 140737488355328 := by
    have := congrArg List.length (bl_extract s 0 ((bl s).takeWhile Lx.letterB).length)
    simp only [bl_length, List.drop_zero, List.length_take] at this
    omega
  generalize ((bl s).takeWhile Lx.letterB).length = n at *
  have HR := Lib.hid hr
  have HQ1 := Lib.hid hq1
  have HSZ := Lib.hid hsz
  have HLL := Lib.hid hL
  clear hr hq1 hq hsz hL
  go_enter Tryd.func85, Tryd.ntmps85
  go_wp2_with fail
  refine (P.lex_run.calls s setLetter (n : Int) _ HR.out).mono ?_
  rintro e w1 ⟨rfl, hb1⟩
  have hbw : Below w.heap.size w w1 := ((Below.refl _ w).alloc (Nat.le_refl _) _).trans (hb1.mono (by simp))
  have hcell : ∀ o, o < 5 → w1.cell? ⟨w.heap.size, o, none⟩ = (w.alloc (.cells #[.int .u8 0, .string ⟨#[]⟩, .int .i64 0, .int .i64 0, .bool false] 49)).cell? ⟨w.heap.size, o, none⟩ := fun o _ => hb1.cell (by simp)
  go_wp2_with fail
  refine (parseInt_any _ HSZ.out _ (HLL.out.below hbw) q HQ1.out).mono ?_
  rintro e w2 ⟨hq, hb2⟩
  have hbw2 := hbw.trans (hb2.mono hbw.size)
  have hblk : w2.heap[w.heap.size]? = some (.cells #[.int .u8 0, .string ⟨#[]⟩, .int .i64 0, .int .i64 0, .bool false] 49) := by
    have s1 := hb1.size
    simp at s1
    rw [hb2.block _ (by omega), hb1.block _ (by simp)]
    exact heap_alloc_new w _
  have hlt : w.heap.size < w2.heap.size := (Array.getElem?_eq_some_iff.1 hblk).1
  clear hb1 hcell
  have hc0 : w2.cell? ⟨w.heap.size, 0, none⟩ = some (.int .u8 0) := by simp [World.cell?, hblk]
  have hc1 : w2.cell? ⟨w.heap.size, 1, none⟩ = some (.string ⟨#[]⟩) := by simp [World.cell?, hblk]
  have hc2 : w2.cell? ⟨w.heap.size, 2, none⟩ = some (.int .i64 0) := by simp [World.cell?, hblk]
  have hc3 : w2.cell? ⟨w.heap.size, 3, none⟩ = some (.int .i64 0) := by simp [World.cell?, hblk]
  have hc4 : w2.cell? ⟨w.heap.size, 4, none⟩ = some (.bool false) := by simp [World.cell?, hblk]
  have hf : ∀ o, w2.frozen? ⟨w.heap.size, o, none⟩ = false := by intro o; simp [World.frozen?, hblk]
  have hf0 := hf 0
  have hf1 := hf 1
  have hf2 := hf 2
  have hf3 := hf 3
  have hf4 := hf 4
  clear hf
  cases q with
  | some v =>
    obtain rfl := hq
    go_wp2
    refine bodyPost_ret (results_ctt rfl _ _ w.heap.size 49 #[.int .u8 4, .string ⟨#[]⟩, .int .i64 v, .int .i64 0, .bool false] (0, 0) _ rfl (blk_put (blk_put (blk_put (blk_put (blk_put hblk 0 _ rfl) 1 _ rfl) 2 _ rfl) 3 _ rfl) 4 _ rfl) Tryd.underlying49 rfl (by kernel_rfl)) rfl ?_
    exact ⟨rfl, below_set (below_set (below_set (below_set (below_set hbw2 (Nat.le_refl _)) (Nat.le_refl _)) (Nat.le_refl _)) (Nat.le_refl _)) (Nat.le_refl _)⟩
  | none =>
    obtain ⟨n1, t1, a1, rfl⟩ := hq
    go_wp2
    refine bodyPost_ret (results_ctt rfl _ _ w.heap.size 49 #[.int .u8 0, .string ⟨#[]⟩, .int .i64 0, .int .i64 0, .bool false] (0, 0) _ rfl (blk_put (blk_put (blk_put (blk_put (blk_put hblk 0 _ rfl) 1 _ rfl) 2 _ rfl) 3 _ rfl) 4 _ rfl) Tryd.underlying49 rfl (by kernel_rfl)) rfl ?_
    exact ⟨rfl, below_set (below_set (below_set (below_set (below_set hbw2 (Nat.le_refl _)) (Nat.le_refl _)) (Nat.le_refl _)) (Nat.le_refl _)) (Nat.le_refl _)⟩

theorem lex_number.calls (a0 : ByteArray) (r1 : Int) (r2 : ByteArray) (r3 r4 : Int) (r5 : Bool) (r6 r7 : Int) (w : World) (hL : LaidE w) (h : lex_number.f a0 = some (r1, r2, r3, r4, r5, r6, r7)) :
    Calls Tryd.prog 85 #[.string a0] w fun e w' => e = .returned (.tuple #[.agg #[.int .u8 r1, .string r2, .int .i64 r3, .int .i64 r4, .bool r5], .int .i64 r6, .int .i64 r7]) ∧ Below w.heap.size w w' := by
  unfold lex_number.f at h
  split at h
  · refine (lex_number.walk a0 w hL (by assumption)).mono ?_
    intro e w' ⟨he, hb⟩
    refine ⟨?_, hb⟩
    split at h <;> rename_i hq <;> rw [hq] at he <;> simp only [Option.some.injEq, Prod.mk.injEq] at h <;> obtain ⟨rfl, rfl, rfl, rfl, rfl, rfl, rfl⟩ := h <;> exact he
  · cases h
end Go.Proofs.YthnjdfblappkfaaDoor
