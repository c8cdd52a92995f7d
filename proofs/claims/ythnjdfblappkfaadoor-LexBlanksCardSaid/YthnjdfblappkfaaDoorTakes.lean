/-
  The lexer's closures: each takes one token off a text's begin.
-/
import Derived.Test.YthnjdfblappkfaaDoorQuoted
import Derived.Test.YthnjdfblappkfaaDoorNumber
import Derived.StillTailTactics
namespace Go.Proofs.YthnjdfblappkfaaDoor
open Go.RowKit Go.Proofs.YthnjdfblappkfaaDoorW.PrintWords

/-- What a rule's function tells: a token, how many bytes it takes, an error's number. -/
def TPost (k : Int) (t : ByteArray) (n : Int) (len e1 : Int) (w : World) (e : Ending) (w' : World) : Prop :=
  e = .returned (.tuple #[.agg #[.int .u8 k, .string t, .int .i64 n, .int .i64 0, .bool false], .int .i64 len, .int .i64 e1]) ∧ Below w.heap.size w w'

theorem tok_cells {w : World} {B : Nat} {k : Value} {t n a o : Value} (h : w.heap[B]? = some (.cells #[k, t, n, a, o] 49 (0, 0))) :
    (w.cell? ⟨B, 0, none⟩ = some k ∧ w.cell? ⟨B, 1, none⟩ = some t ∧ w.cell? ⟨B, 2, none⟩ = some n ∧ w.cell? ⟨B, 3, none⟩ = some a ∧ w.cell? ⟨B, 4, none⟩ = some o) ∧
    (w.frozen? ⟨B, 0, none⟩ = false ∧ w.frozen? ⟨B, 1, none⟩ = false ∧ w.frozen? ⟨B, 2, none⟩ = false ∧ w.frozen? ⟨B, 3, none⟩ = false ∧ w.frozen? ⟨B, 4, none⟩ = false) := by
  simp [World.cell?, World.frozen?, h]

theorem tok_end {w1 : World} {B : Nat} (h : w1.heap[B]? = some (.cells #[.int .u8 0, .string ⟨#[]⟩, .int .i64 0, .int .i64 0, .bool false] 49 (0, 0))) (k t n a o : Value) :
    (((((w1.setCell ⟨B, 0, none⟩ k).setCell ⟨B, 1, none⟩ t).setCell ⟨B, 2, none⟩ n).setCell ⟨B, 3, none⟩ a).setCell ⟨B, 4, none⟩ o).heap[B]? = some (.cells #[k, t, n, a, o] 49 (0, 0)) :=
  blk_put (blk_put (blk_put (blk_put (blk_put (cs := #[.int .u8 0, .string ⟨#[]⟩, .int .i64 0, .int .i64 0, .bool false]) h 0 _ rfl) 1 _ rfl) 2 _ rfl) 3 _ rfl) 4 _ rfl

set_option maxHeartbeats 2000000 in
set_option maxRecDepth 100000 in
theorem of_walk (s set : ByteArray) (k : Int) (ps pk : Addr) (w : World) (ha : ascii set = true) (hs : s.size ≤ 140737488355328)
    (h1 : w.cell? ps = some (.string set)) (h2 : w.cell? pk = some (.int .u8 k)) :
    Calls Tryd.prog 113 #[.string s, .pointer (some ps), .pointer (some pk)] w (TPost k (s.extract 0 (headLen set s)) 0 (headLen set s : Nat) 0 w) := by
  have hr := run_eq s set ha (by omega)
  have hle := headLen_le set s
  generalize headLen set s = n at *
  have HR := Lib.hid hr
  have HA := Lib.hid ha
  clear hr ha
  have hl1 := World.block_lt_of_cell? w _ h1
  have hl2 := World.block_lt_of_cell? w _ h2
  go_enter Tryd.func113, Tryd.ntmps113
  go_wp2_with fail
  refine (P.lex_run.calls s set (n : Int) _ HR.out).mono ?_
  rintro e w1 ⟨rfl, hb1⟩
  have hbw : Below w.heap.size w w1 := ((Below.refl _ w).alloc (Nat.le_refl _) _).trans (hb1.mono (by simp))
  have hblk : w1.heap[w.heap.size]? = some (.cells #[.int .u8 0, .string ⟨#[]⟩, .int .i64 0, .int .i64 0, .bool false] 49) := by
    rw [hb1.block _ (by simp)]
    exact heap_alloc_new w _
  have hlt : w.heap.size < w1.heap.size := (Array.getElem?_eq_some_iff.1 hblk).1
  clear hb1
  obtain ⟨⟨hc0, hc1, hc2, hc3, hc4⟩, hf0, hf1, hf2, hf3, hf4⟩ := tok_cells hblk
  have hk := (hbw.cell (p := pk) hl2).trans h2
  have hk1 := (hbw.cell (p := ps) hl1).trans h1
  go_wp2
  have hb2 : decide ((n : Int) ≤ (s.size : Int)) = true := by simp; omega
  go_region
  go_wp2
  refine bodyPost_ret (results_ctt rfl _ _ w.heap.size 49 #[.int .u8 k, .string (s.extract 0 n), .int .i64 0, .int .i64 0, .bool false] (0, 0) _ rfl (by (with_reducible repeat (first | refine blk_drewN ?_ _ | refine blk_drew ?_)); exact tok_end hblk _ _ _ _ _) Tryd.underlying49 rfl (by kernel_rfl)) rfl ?_
  refine ⟨?_, by repeat (first | exact hbw | apply below_drew1 | refine below_set ?_ (Nat.le_refl _))⟩
  rfl

set_option maxHeartbeats 2000000 in
set_option maxRecDepth 100000 in
theorem one_walk (s : ByteArray) (k : Int) (pk : Addr) (w : World) (hs : 1 ≤ s.size)
    (h2 : w.cell? pk = some (.int .u8 k)) :
    Calls Tryd.prog 115 #[.string s, .pointer (some pk)] w (TPost k (s.extract 0 1) 0 1 0 w) := by
  have hl2 := World.block_lt_of_cell? w _ h2
  have hbw : Below w.heap.size w (w.alloc (.cells #[.int .u8 0, .string ⟨#[]⟩, .int .i64 0, .int .i64 0, .bool false] 49)) := (Below.refl _ w).alloc (Nat.le_refl _) _
  have hblk := heap_alloc_new w (.cells #[.int .u8 0, .string ⟨#[]⟩, .int .i64 0, .int .i64 0, .bool false] 49)
  have hk := (hbw.cell (p := pk) hl2).trans h2
  have hsz := w.size_alloc (.cells #[.int .u8 0, .string ⟨#[]⟩, .int .i64 0, .int .i64 0, .bool false] 49)
  go_enter Tryd.func115, Tryd.ntmps115
  go_wp2
  generalize w.alloc (.cells #[.int .u8 0, .string ⟨#[]⟩, .int .i64 0, .int .i64 0, .bool false] 49) = w1 at *
  obtain ⟨⟨hc0, hc1, hc2, hc3, hc4⟩, hf0, hf1, hf2, hf3, hf4⟩ := tok_cells hblk
  have hlt : w.heap.size < w1.heap.size := by omega
  clear hsz
  have hb2 : decide (1 ≤ s.size) = true := by simp; omega
  go_region
  go_wp2
  refine bodyPost_ret (results_ctt rfl _ _ w.heap.size 49 #[.int .u8 k, .string (s.extract 0 1), .int .i64 0, .int .i64 0, .bool false] (0, 0) _ rfl (by (with_reducible repeat (first | refine blk_drewN ?_ _ | refine blk_drew ?_)); exact tok_end hblk _ _ _ _ _) Tryd.underlying49 rfl (by kernel_rfl)) rfl ?_
  refine ⟨?_, by repeat (first | exact hbw | apply below_drew1 | refine below_set ?_ (Nat.le_refl _))⟩
  rfl

set_option maxHeartbeats 2000000 in
set_option maxRecDepth 100000 in
theorem quote_walk (s : ByteArray) (w : World) (t : ByteArray) (n e1 : Int) (hq : lex_quoted.f s = some (t, n, e1)) :
    Calls Tryd.prog 88 #[.string s] w (TPost 2 t 0 n e1 w) := by
  have HQ := Lib.hid hq
  clear hq
  go_enter Tryd.func88, Tryd.ntmps88
  go_wp2_with fail
  refine (lex_quoted.calls s t n e1 _ HQ.out).mono ?_
  rintro e w1 ⟨rfl, hb1⟩
  have hbw : Below w.heap.size w w1 := ((Below.refl _ w).alloc (Nat.le_refl _) _).trans (hb1.mono (by simp))
  have hblk : w1.heap[w.heap.size]? = some (.cells #[.int .u8 0, .string ⟨#[]⟩, .int .i64 0, .int .i64 0, .bool false] 49) := by
    rw [hb1.block _ (by simp)]
    exact heap_alloc_new w _
  have hlt : w.heap.size < w1.heap.size := (Array.getElem?_eq_some_iff.1 hblk).1
  clear hb1
  obtain ⟨⟨hc0, hc1, hc2, hc3, hc4⟩, hf0, hf1, hf2, hf3, hf4⟩ := tok_cells hblk
  go_wp2
  refine bodyPost_ret (results_ctt rfl _ _ w.heap.size 49 #[.int .u8 2, .string t, .int .i64 0, .int .i64 0, .bool false] (0, 0) _ rfl (by (with_reducible repeat (first | refine blk_drewN ?_ _ | refine blk_drew ?_)); exact tok_end hblk _ _ _ _ _) Tryd.underlying49 rfl (by kernel_rfl)) rfl ?_
  refine ⟨?_, by repeat (first | exact hbw | apply below_drew1 | refine below_set ?_ (Nat.le_refl _))⟩
  rfl
end Go.Proofs.YthnjdfblappkfaaDoor
