/- Several small texts of this claim in one. -/
import Derived.Test.YtecjdjdfikcliaaGreatDoorBase
import Derived.Test.YtecjdjdfikcliaaGreatDoorShelfP
import Derived.MapKept
import Derived.WideMake
import Derived.RangeFuncRecord
section
/-
  The operators' tables: parse.infixes, parse.Infix, parse.Prefix.
-/
namespace Go.Proofs.YtecjdjdfikcliaaGreatDoor
open Go.RowKit

/-- What the operators' tables need of the world: the table of blanks is laid. -/
structure LaidP (w : World) : Prop where
  tab : Lib.TabIs Tryz.prog w "strings.asciiSpace" .u8 Lib.asciiSpaceTab
theorem global_asc : Tryz.prog.globalNamed "strings.asciiSpace" = some 0 := by kernel_rfl
theorem LaidP.below {w w' : World} (h : LaidP w) (hb : Below w.heap.size w w') : LaidP w' := by
  obtain ⟨ht⟩ := h
  refine ⟨?_⟩
  unfold Lib.TabIs at ht ⊢
  refine var?_below hb global_asc ?_ ht
  unfold World.var? at ht
  simp only [global_asc, Option.bind_some] at ht
  rcases Nat.lt_or_ge 0 w.heap.size with hlt | hge
  · exact hlt
  · rw [Array.getElem?_eq_none hge] at ht
    simp at ht

abbrev Opr := ByteArray × Int × Int × Int
abbrev opV (o : Int × Int × Int) : Value := .agg #[.int .i64 o.1, .int .i64 o.2.1, .int .i64 o.2.2]
def infL : List Opr := [(⟨#[58, 45]⟩, 1200, 1199, 1199), (⟨#[59]⟩, 1100, 1099, 1100), (⟨#[45, 62]⟩, 1050, 1049, 1050), (⟨#[44]⟩, 1000, 999, 1000),
  (⟨#[61]⟩, 700, 699, 699), (⟨#[92, 61]⟩, 700, 699, 699), (⟨#[61, 61]⟩, 700, 699, 699), (⟨#[92, 61, 61]⟩, 700, 699, 699), (⟨#[64, 60]⟩, 700, 699, 699), (⟨#[64, 62]⟩, 700, 699, 699), (⟨#[64, 61, 60]⟩, 700, 699, 699), (⟨#[64, 62, 61]⟩, 700, 699, 699), (⟨#[105, 115]⟩, 700, 699, 699), (⟨#[61, 58, 61]⟩, 700, 699, 699), (⟨#[61, 92, 61]⟩, 700, 699, 699), (⟨#[60]⟩, 700, 699, 699), (⟨#[62]⟩, 700, 699, 699), (⟨#[61, 60]⟩, 700, 699, 699), (⟨#[62, 61]⟩, 700, 699, 699),
  (⟨#[43]⟩, 500, 500, 499), (⟨#[45]⟩, 500, 500, 499),
  (⟨#[42]⟩, 400, 400, 399), (⟨#[47, 47]⟩, 400, 400, 399), (⟨#[114, 101, 109]⟩, 400, 400, 399), (⟨#[109, 111, 100]⟩, 400, 400, 399)]
def preL : List Opr := [(⟨#[58, 45]⟩, 1200, 0, 1199), (⟨#[92, 43]⟩, 900, 0, 900), (⟨#[45]⟩, 200, 0, 200)]
/-- The entry of a name. -/
def opM (L : List Opr) (l : List UInt8) : Option (Int × Int × Int) := (L.find? fun e => decide (bl e.1 = l)).map (·.2)

/-- The first n entries of a table, as a map that was filled in that order. -/
def opEs (L : List Opr) (n : Nat) : Array MapEntry := ((L.take n).mapIdx fun j e => { key := .string e.1, val := opV e.2, born := j }).toArray
theorem opEs_succ (L : List Opr) (n : Nat) (h : n < L.length) : opEs L (n + 1) = (opEs L n).push { key := .string L[n].1, val := opV L[n].2, born := n } := by
  unfold opEs
  rw [List.take_succ_eq_append_getElem h, List.mapIdx_append]
  simp only [List.length_take, Nat.min_eq_left (Nat.le_of_lt h), List.mapIdx_cons, List.mapIdx_nil, Nat.zero_add, List.push_toArray]
theorem opEs_mem {L : List Opr} {n : Nat} {x : MapEntry} (h : x ∈ (opEs L n).toList) : ∃ j, ∃ hj : j < L.length, j < n ∧ x = { key := .string L[j].1, val := opV L[j].2, born := j } := by
  unfold opEs at h
  obtain ⟨j, hj, rfl⟩ := List.mem_iff_getElem.1 h
  have hj' := hj
  simp only [List.length_mapIdx, List.length_take] at hj'
  refine ⟨j, by omega, by omega, ?_⟩
  simp
theorem opEs_keys (L : List Opr) (n : Nat) : ∀ x ∈ (opEs L n).toList, MapKept.IsKey .string x.key := fun x hx => by
  obtain ⟨j, _, _, rfl⟩ := opEs_mem hx
  trivial
theorem nodup_at {α : Type} {l : List α} (h : l.Nodup) {i j : Nat} (hi : i < l.length) (hj : j < l.length) (e : l[i] = l[j]) : i = j := by
  rcases Nat.lt_trichotomy i j with q | q | q
  · exact absurd e (List.pairwise_iff_getElem.1 h i j hi hj q)
  · exact q
  · exact absurd e.symm (List.pairwise_iff_getElem.1 h j i hj hi q)
theorem opEs_new {L : List Opr} (hN : (L.map fun e => bl e.1).Nodup) (n : Nat) (h : n < L.length) : Instr.findNow .string (.string L[n].1) (opEs L n).toList 0 = some none := by
  rcases MapKept.findNow_spec (d := .string) (k := .string L[n].1) (by simp [MapKept.IsKey]) (opEs L n).toList 0 (opEs_keys L n) with ⟨h1, _⟩ | ⟨j, e, _, h2, h3⟩
  · exact h1
  · obtain ⟨i, hi, hin, rfl⟩ := opEs_mem (List.mem_iff_getElem?.2 ⟨j, h2⟩)
    injection h3 with h3
    have := nodup_at hN (i := i) (j := n) (by simpa using hi) (by simpa using h) (by simp [h3])
    omega
theorem infN : (infL.map fun e => bl e.1).Nodup := by decide
theorem preN : (preL.map fun e => bl e.1).Nodup := by decide

/-- One more entry. -/
theorem run_putOp {w : World} {b : Nat} {es : Array MapEntry} {c : Nat} (hb : w.heap[b]? = some (.map es c)) (k : ByteArray) (v : Value) (hf : Instr.findNow .string (.string k) es.toList 0 = some none) :
    (Instr.mapUpdate 50 (.map (some b)) (.string k) v).run Tryz.prog w = .ok () (w.putObj b (.map (es.push { key := .string k, val := v, born := c }) (c + 1))) := by
  have hc : (Instr.checkKey false 10000 9 (.string k)).run Tryz.prog w = .ok () _ := MapKept.run_checkKey (k := .string k) Tryz.underlying9 (by simp [MapKept.IsKey]) false 9999
  simp [Instr.mapUpdate, run_underlying Tryz.underlying50, MapKept.run_getObj_map hb, hc, MapKept.run_findKey Tryz.underlying9 hf, MapKept.run_setObj_map _ hb, Result.andThen]
  rfl
theorem putObj_alloc (w : World) (o o' : Obj) : (w.alloc o).putObj w.heap.size o' = w.alloc o' := by
  have e : (w.alloc o).heap = w.heap.push o := rfl
  have e' : (w.alloc o').heap = w.heap.push o' := rfl
  have : (w.alloc o).heap.setIfInBounds w.heap.size o' = (w.alloc o').heap := by
    rw [e, e']
    apply Array.ext
    · simp
    · intro i h1 h2
      simp at h1
      rcases Nat.lt_or_ge i w.heap.size with h | h
      · rw [Array.getElem_setIfInBounds_ne (by simpa using h1) (by omega)]
        simp [Array.getElem_push, h]
      · obtain rfl : i = w.heap.size := by omega
        simp
  unfold World.putObj
  rw [this]
  rfl
theorem run_putA (L : List Opr) (hN : (L.map fun e => bl e.1).Nodup) (w : World) (n : Nat) (h : n < L.length) :
    (Instr.mapUpdate 50 (.map (some w.heap.size)) (.string L[n].1) (opV L[n].2)).run Tryz.prog (w.alloc (.map (opEs L n) n)) = .ok () (w.alloc (.map (opEs L (n + 1)) (n + 1))) := by
  rw [run_putOp (MapKept.heap_alloc w _).1 _ _ (opEs_new hN n h), putObj_alloc, opEs_succ L n h]

theorem run_lookOp (L : List Opr) (hN : (L.map fun e => bl e.1).Nodup) {W : World} {b c : Nat} (hb : W.heap[b]? = some (.map (opEs L L.length) c)) (k : ByteArray) :
    (Instr.lookup 50 (.map (some b)) (.string k) true).run Tryz.prog W = .ok (match opM L (bl k) with | some o => .tuple #[opV o, .bool true] | none => .tuple #[opV (0, 0, 0), .bool false]) W := by
  have hc : ∀ e, (Instr.checkKey e 10000 9 (.string k)).run Tryz.prog W = .ok () W := fun e => MapKept.run_checkKey (k := .string k) Tryz.underlying9 (by simp [MapKept.IsKey]) e 9999
  simp only [Instr.lookup, Sem.run_bind, run_underlying Tryz.underlying50, Result.andThen, MapKept.run_getObj_map hb, Sem.run_pure, hc]
  rcases MapKept.findNow_spec (d := .string) (k := .string k) (by simp [MapKept.IsKey]) (opEs L L.length).toList 0 (opEs_keys L _) with ⟨h1, h2⟩ | ⟨j, e, h1, h2, h3⟩
  · rw [MapKept.run_findKey Tryz.underlying9 h1]
    have hm : opM L (bl k) = none := by
      unfold opM
      rw [Option.map_eq_none_iff, List.find?_eq_none]
      intro x hx hk
      obtain ⟨i, hi, rfl⟩ := List.mem_iff_getElem.1 hx
      refine h2 { key := .string L[i].1, val := opV L[i].2, born := i } ?_ ?_
      · unfold opEs
        rw [List.mem_iff_getElem]
        exact ⟨i, by simpa using hi, by simp⟩
      · rw [bl_ext (of_decide_eq_true hk)]
    rw [hm]
    simp [go_sem]
  · obtain ⟨i, hi, _, rfl⟩ := opEs_mem (List.mem_iff_getElem?.2 ⟨j, h2⟩)
    rw [MapKept.run_findKey Tryz.underlying9 h1]
    injection h3 with h3
    have hm : opM L (bl k) = some L[i].2 := by
      unfold opM
      cases hf : L.find? (fun e => decide (bl e.1 = bl k)) with
      | none =>
        have := List.find?_eq_none.1 hf L[i] (List.getElem_mem hi)
        simp [h3] at this
      | some x =>
        have hx1 := List.find?_some hf
        obtain ⟨q, hq, rfl⟩ := List.mem_iff_getElem.1 (List.mem_of_find?_eq_some hf)
        have := nodup_at hN (i := q) (j := i) (by simpa using hq) (by simpa using hi) (by
          rw [List.getElem_map, List.getElem_map, of_decide_eq_true hx1, ← h3])
        subst this
        rfl
    rw [hm]
    simp

/-- Some of the table's names, as a row. -/
def wordCells (a n : Nat) : Array Value := (((infL.drop a).take n).map fun e => Value.string e.1).toArray
theorem fields_of (c : ByteArray) (a n : Nat) (w : World) (h : LaidP w) (hs : c.size < 4294967281) (hc : c.data.toList.all (fun b => decide (b.toNat < 128)) = true) (hw : Lib.fields c.data.toList = ((infL.drop a).take n).map fun e => bl e.1) (hn : ((infL.drop a).take n).length = n) :
    Calls Tryz.prog 30 #[.string c] w fun e w' => e = .returned (.slice (some ⟨w.heap.size, 0, none⟩) n n) ∧ w' = w.alloc (.cells (wordCells a n) 9) := by
  have := Tryz.strings_Fields c w hs (fun j b hj => by
    have := List.all_eq_true.1 hc b (List.mem_iff_getElem?.2 ⟨j, hj⟩)
    simpa using this) h.tab
  rw [hw, List.length_map, hn, List.map_map] at this
  exact this
theorem wordCells_at (a n i : Nat) (hi : i < n) (h : a + i < infL.length) : (wordCells a n)[i]? = some (.string infL[a + i].1) := by
  unfold wordCells
  simp [hi, h]

/-- All but one block is as it was. -/
structure But1 (m : Nat) (W W' : World) : Prop where
  os : W'.os = W.os
  tape : W'.tape = W.tape
  output : W'.output = W.output
  size : W.heap.size ≤ W'.heap.size
  block : ∀ k, k < W.heap.size → k ≠ m → W'.heap[k]? = W.heap[k]?
theorem But1.refl (m : Nat) (W : World) : But1 m W W := ⟨rfl, rfl, rfl, Nat.le_refl _, fun _ _ _ => rfl⟩
theorem But1.trans {m : Nat} {A B C : World} (h : But1 m A B) (k : But1 m B C) : But1 m A C :=
  ⟨k.os.trans h.os, k.tape.trans h.tape, k.output.trans h.output, Nat.le_trans h.size k.size, fun i hi hx => (k.block i (Nat.lt_of_lt_of_le hi h.size) hx).trans (h.block i hi hx)⟩
theorem But1.putObj {m : Nat} (W : World) (o : Obj) : But1 m W (W.putObj m o) := ⟨rfl, rfl, rfl, by simp [World.putObj], fun k _ hk => World.putObj_heap_other hk⟩
theorem But1.of_below {m : Nat} {W W' : World} (h : Below W.heap.size W W') : But1 m W W' := ⟨h.os, h.tape, h.output, h.size, fun k hk _ => h.block k hk⟩
theorem But1.below {m : Nat} {W W' : World} (h : But1 m W W') (hm : m ≤ W.heap.size) : Below m W W' := ⟨h.os, h.tape, h.output, h.size, fun k hk => h.block k (by omega) (by omega)⟩

theorem put_round {wr : World} {m j : Nat} (hj : j < infL.length) (hm : wr.heap[m]? = some (.map (opEs infL j) j)) {o : Int × Int × Int} (ho : infL[j].2 = o) :
    (Instr.mapUpdate 50 (.map (some m)) (.string infL[j].1) (opV o)).run Tryz.prog wr = .ok () (wr.putObj m (.map (opEs infL (j + 1)) (j + 1))) := by
  rw [← ho, run_putOp hm _ _ (opEs_new infN j hj), opEs_succ infL j hj]
theorem inf1 : ∀ i : Fin 15, (infL[4 + i.val]'(by have := i.isLt; show 4 + i.val < 25; omega)).2 = (700, 699, 699) := by decide
theorem inf2 : ∀ i : Fin 2, (infL[19 + i.val]'(by have := i.isLt; show 19 + i.val < 25; omega)).2 = (500, 500, 499) := by decide
theorem inf3 : ∀ i : Fin 4, (infL[21 + i.val]'(by have := i.isLt; show 21 + i.val < 25; omega)).2 = (400, 400, 399) := by decide

set_option maxHeartbeats 4000000 in
set_option maxRecDepth 100000 in
theorem infixes_calls (w : World) (hP : LaidP w) : Calls Tryz.prog 18 #[] w fun e w' => e = .returned (.map (some w.heap.size)) ∧ w'.heap[w.heap.size]? = some (.map (opEs infL 25) 25) ∧ Below w.heap.size w w' := by
  have hmm := @run_makeMap Tryz.prog
  have h0 : opEs infL 0 = #[] := rfl
  have h1 := run_putA infL infN w 0 (by decide)
  have h2 := run_putA infL infN w 1 (by decide)
  have h3 := run_putA infL infN w 2 (by decide)
  have h4 := run_putA infL infN w 3 (by decide)
  rw [h0] at h1
  simp only [show infL[0] = ((⟨#[58, 45]⟩, 1200, 1199, 1199) : Opr) from rfl] at h1
  simp only [show infL[1] = ((⟨#[59]⟩, 1100, 1099, 1100) : Opr) from rfl] at h2
  simp only [show infL[2] = ((⟨#[45, 62]⟩, 1050, 1049, 1050) : Opr) from rfl] at h3
  simp only [show infL[3] = ((⟨#[44]⟩, 1000, 999, 1000) : Opr) from rfl] at h4
  clear h0
  have hbA : Below w.heap.size w (w.alloc (.map (opEs infL 4) 4)) := (Below.refl _ w).alloc (Nat.le_refl _) _
  have hmA := (MapKept.heap_alloc w (.map (opEs infL 4) 4)).1
  have hsA : (w.alloc (.map (opEs infL 4) 4)).heap.size = w.heap.size + 1 := World.size_alloc _ _
  have hc1 := Lib.hid (fields_of ⟨#[61, 32, 92, 61, 32, 61, 61, 32, 92, 61, 61, 32, 64, 60, 32, 64, 62, 32, 64, 61, 60, 32, 64, 62, 61, 32, 105, 115, 32, 61, 58, 61, 32, 61, 92, 61, 32, 60, 32, 62, 32, 61, 60, 32, 62, 61]⟩ 4 15 _ (hP.below hbA) (by decide) (by decide +kernel) (by decide +kernel) rfl)
  have HSA := Lib.hid hsA
  clear hsA
  go_enter Tryz.func18, Tryz.ntmps18
  go_wp2_with fail
  refine hc1.out.mono ?_
  rintro e w1 ⟨rfl, hw1⟩
  have hbB := (Below.refl (w.alloc (.map (opEs infL 4) 4)).heap.size (w.alloc (.map (opEs infL 4) 4))).alloc (Nat.le_refl _) (.cells (wordCells 4 15) 9)
  have hr1 := (MapKept.heap_alloc (w.alloc (.map (opEs infL 4) 4)) (.cells (wordCells 4 15) 9)).1
  rw [← hw1] at hbB hr1
  have hm1 := (hbB.block w.heap.size (by have := HSA.out; omega)).trans hmA
  have hb1 : Below w.heap.size w w1 := hbA.trans (hbB.mono hbA.size)
  rw [HSA.out] at hr1
  have HS1 : Hid (w1.heap.size = w.heap.size + 2) := by
    show _ = _
    rw [hw1, World.size_alloc, HSA.out]
  clear hw1 hbB hbA hmA h1 h2 h3 h4 hc1 hmm
  go_wp2
  go_loopw [3, 16] (fun _ v16 wr => ∃ i : Nat, v16 = .int .i64 i ∧ i ≤ 15 ∧ wr.heap[w.heap.size]? = some (.map (opEs infL (4 + i)) (4 + i)) ∧ But1 w.heap.size w1 wr) (fun _ v16 _ => 15 - (intOf v16).toNat)
  case atStart => exact ⟨0, rfl, Nat.zero_le _, hm1, But1.refl _ _⟩
  case round =>
    obtain ⟨i, rfl, hi, hmr, hbr⟩ := hrel
    by_cases hlt : i < 15
    · have hdd : decide ((i : Int) < 15) = true := by simp; omega
      have hrr := (hbr.block (w.heap.size + 1) (by have := HS1.out; omega) (by omega)).trans hr1
      have hx : 4 + i < infL.length := by show 4 + i < 25; omega
      have hcell : wr.cell? ⟨w.heap.size + 1, i, none⟩ = some (.string infL[4 + i].1) := by
        have hw := wordCells_at 4 15 i hlt (by show 4 + i < 25; omega)
        have := Lib.cell_of_heap hrr i
        rw [this]
        exact hw
      have hput := put_round (j := 4 + i) (by show 4 + i < 25; omega) hmr (inf1 ⟨i, hlt⟩)
      have hb2 := But1.putObj (m := w.heap.size) wr (.map (opEs infL (4 + i + 1)) (4 + i + 1))
      have hm2 := World.putObj_heap_same (o := .map (opEs infL (4 + i + 1)) (4 + i + 1)) (Array.getElem?_eq_some_iff.1 hmr).1
      obtain ⟨S, hS⟩ : ∃ S, infL[4 + i].1 = S := ⟨_, rfl⟩
      obtain ⟨w2, hw2⟩ : ∃ w2, wr.putObj w.heap.size (.map (opEs infL (4 + i + 1)) (4 + i + 1)) = w2 := ⟨_, rfl⟩
      rw [hS] at hcell hput
      rw [hw2] at hput hb2 hm2
      clear hS hrr hmr hw2
      go_wp2
      exact ⟨⟨i + 1, by simp, by omega, hm2, hbr.trans hb2⟩, by simp [intOf]; omega⟩
    · obtain rfl : i = 15 := by omega
      clear hlt hi hr1 hm1
      have hsr : w.heap.size + 2 ≤ wr.heap.size := by have := HS1.out; have := hbr.size; omega
      have hbW : Below w.heap.size w wr := hb1.trans (hbr.below (by have := HS1.out; omega))
      obtain ⟨y1, hy1⟩ : ∃ y, y = wr := ⟨_, rfl⟩
      subst hy1
      have hc2 := fields_of ⟨#[43, 32, 45]⟩ 19 2 y1 (hP.below hbW) (by decide) (by decide +kernel) (by decide +kernel) rfl
      have HC2 := Lib.hid hc2
      clear hc2
      go_wp2_with fail
      refine HC2.out.mono ?_
      rintro e x2 ⟨rfl, hw2⟩
      have hbB2 := (Below.refl y1.heap.size y1).alloc (Nat.le_refl _) (.cells (wordCells 19 2) 9)
      have hr2 := (MapKept.heap_alloc y1 (.cells (wordCells 19 2) 9)).1
      rw [← hw2] at hbB2 hr2
      have hm2 := (hbB2.block w.heap.size (by omega)).trans hmr
      have hb2 : Below w.heap.size w x2 := hbW.trans (hbB2.mono hbW.size)
      have HS2 : Hid (x2.heap.size = y1.heap.size + 1) := by
        show _ = _
        rw [hw2, World.size_alloc]
      clear hw2 hbB2
      go_wp2
      go_loopw [5, 26] (fun _ v wr => ∃ i : Nat, v = .int .i64 i ∧ i ≤ 2 ∧ wr.heap[w.heap.size]? = some (.map (opEs infL (19 + i)) (19 + i)) ∧ But1 w.heap.size x2 wr) (fun _ v _ => 2 - (intOf v).toNat)
      case atStart => exact ⟨0, rfl, Nat.zero_le _, hm2, But1.refl _ _⟩
      case round =>
        obtain ⟨i, rfl, hi, hmr2, hbr2⟩ := hrel
        by_cases hlt : i < 2
        · have hdd : decide ((i : Int) < 2) = true := by simp; omega
          have hrr := (hbr2.block y1.heap.size (by have := HS2.out; omega) (by omega)).trans hr2
          have hx : 19 + i < infL.length := by show 19 + i < 25; omega
          have hcell : wr.cell? ⟨y1.heap.size, i, none⟩ = some (.string infL[19 + i].1) := by
            have hw := wordCells_at 19 2 i hlt (by show 19 + i < 25; omega)
            have := Lib.cell_of_heap hrr i
            rw [this]
            exact hw
          have hput := put_round (j := 19 + i) (by show 19 + i < 25; omega) hmr2 (inf2 ⟨i, hlt⟩)
          have hb2 := But1.putObj (m := w.heap.size) wr (.map (opEs infL (19 + i + 1)) (19 + i + 1))
          have hm2 := World.putObj_heap_same (o := .map (opEs infL (19 + i + 1)) (19 + i + 1)) (Array.getElem?_eq_some_iff.1 hmr2).1
          obtain ⟨S, hS⟩ : ∃ S, infL[19 + i].1 = S := ⟨_, rfl⟩
          obtain ⟨z, hz⟩ : ∃ z, wr.putObj w.heap.size (.map (opEs infL (19 + i + 1)) (19 + i + 1)) = z := ⟨_, rfl⟩
          rw [hS] at hcell hput
          rw [hz] at hput hb2 hm2
          clear hS hrr hmr2 hz
          go_wp2
          exact ⟨⟨i + 1, by simp, by omega, hm2, hbr2.trans hb2⟩, by simp [intOf]; omega⟩
        · obtain rfl : i = 2 := by omega
          clear hlt hi hr2 hm2
          have hs2 : w.heap.size + 2 ≤ wr.heap.size := by have := HS2.out; have := hbr2.size; omega
          have hbW2 : Below w.heap.size w wr := hb2.trans (hbr2.below (by have := HS2.out; omega))
          obtain ⟨y2, hy2⟩ : ∃ y, y = wr := ⟨_, rfl⟩
          subst hy2
          have hc3 := fields_of ⟨#[42, 32, 47, 47, 32, 114, 101, 109, 32, 109, 111, 100]⟩ 21 4 y2 (hP.below hbW2) (by decide) (by decide +kernel) (by decide +kernel) rfl
          have HC3 := Lib.hid hc3
          clear hc3
          go_wp2_with fail
          refine HC3.out.mono ?_
          rintro e x3 ⟨rfl, hw3⟩
          have hbB3 := (Below.refl y2.heap.size y2).alloc (Nat.le_refl _) (.cells (wordCells 21 4) 9)
          have hr3 := (MapKept.heap_alloc y2 (.cells (wordCells 21 4) 9)).1
          rw [← hw3] at hbB3 hr3
          have hm3 := (hbB3.block w.heap.size (by omega)).trans hmr2
          have hb3 : Below w.heap.size w x3 := hbW2.trans (hbB3.mono hbW2.size)
          have HS3 : Hid (x3.heap.size = y2.heap.size + 1) := by
            show _ = _
            rw [hw3, World.size_alloc]
          clear hw3 hbB3
          go_wp2
          go_loopw [7, 36] (fun _ v wr => ∃ i : Nat, v = .int .i64 i ∧ i ≤ 4 ∧ wr.heap[w.heap.size]? = some (.map (opEs infL (21 + i)) (21 + i)) ∧ But1 w.heap.size x3 wr) (fun _ v _ => 4 - (intOf v).toNat)
          case atStart => exact ⟨0, rfl, Nat.zero_le _, hm3, But1.refl _ _⟩
          case round =>
            obtain ⟨i, rfl, hi, hmr3, hbr3⟩ := hrel
            by_cases hlt : i < 4
            · have hdd : decide ((i : Int) < 4) = true := by simp; omega
              have hrr := (hbr3.block y2.heap.size (by have := HS3.out; omega) (by omega)).trans hr3
              have hx : 21 + i < infL.length := by show 21 + i < 25; omega
              have hcell : wr.cell? ⟨y2.heap.size, i, none⟩ = some (.string infL[21 + i].1) := by
                have hw := wordCells_at 21 4 i hlt (by show 21 + i < 25; omega)
                have := Lib.cell_of_heap hrr i
                rw [this]
                exact hw
              have hput := put_round (j := 21 + i) (by show 21 + i < 25; omega) hmr3 (inf3 ⟨i, hlt⟩)
              have hb2 := But1.putObj (m := w.heap.size) wr (.map (opEs infL (21 + i + 1)) (21 + i + 1))
              have hm2 := World.putObj_heap_same (o := .map (opEs infL (21 + i + 1)) (21 + i + 1)) (Array.getElem?_eq_some_iff.1 hmr3).1
              obtain ⟨S, hS⟩ : ∃ S, infL[21 + i].1 = S := ⟨_, rfl⟩
              obtain ⟨z, hz⟩ : ∃ z, wr.putObj w.heap.size (.map (opEs infL (21 + i + 1)) (21 + i + 1)) = z := ⟨_, rfl⟩
              rw [hS] at hcell hput
              rw [hz] at hput hb2 hm2
              clear hS hrr hmr3 hz
              go_wp2
              exact ⟨⟨i + 1, by simp, by omega, hm2, hbr3.trans hb2⟩, by simp [intOf]; omega⟩
            · obtain rfl : i = 4 := by omega
              clear hlt hi hr3 hm3
              have hs3 : w.heap.size + 2 ≤ wr.heap.size := by have := HS3.out; have := hbr3.size; omega
              have hbW3 : Below w.heap.size w wr := hb3.trans (hbr3.below (by have := HS3.out; omega))
              go_wp2
              go_ret
              exact ⟨rfl, hmr3, hbW3⟩
end Go.Proofs.YtecjdjdfikcliaaGreatDoor
end
section
/-
  parse.Infix and parse.Prefix.
-/
namespace Go.Proofs.YtecjdjdfikcliaaGreatDoor
open Go.RowKit

/-- What a table answers. -/
def ansM (o : Option (Int × Int × Int)) : Int × Int × Int × Bool := match o with | some o => (o.1, o.2.1, o.2.2, true) | none => (0, 0, 0, false)
def infR (s : List UInt8) : Int × Int × Int × Bool := ansM (opM infL s)
def preR (s : List UInt8) : Int × Int × Int × Bool := ansM (opM preL s)

theorem results_tmp4 {fn : Func} {t u v x : Tmp} (h : fn.results = #[.tmp t, .tmp u, .tmp v, .tmp x]) (tmps : Array Value) (P : Program) (w : World) :
    (results fn tmps).run P w = .ok (.tuple #[tmps.getD t undef, tmps.getD u undef, tmps.getD v undef, tmps.getD x undef]) w := by
  simp [results, h]

set_option maxHeartbeats 2000000 in
set_option maxRecDepth 100000 in
theorem Infix_calls (s : ByteArray) (w : World) (hP : LaidP w) :
    Calls Tryz.prog 6 #[.string s] w fun e w' => e = .returned (.tuple #[.int .i64 (infR (bl s)).1, .int .i64 (infR (bl s)).2.1, .int .i64 (infR (bl s)).2.2.1, .bool (infR (bl s)).2.2.2]) ∧ Below w.heap.size w w' := by
  have hu89 := Tryz.underlying48
  obtain ⟨p, hp⟩ : ∃ p, opM infL (bl s) = p := ⟨_, rfl⟩
  have hI := Lib.hid (infixes_calls w hP)
  unfold infR
  rw [hp]
  cases p with
  | none =>
    go_enter Tryz.func6, Tryz.ntmps6
    go_wp2_with fail
    refine hI.out.mono ?_
    rintro e w1 ⟨rfl, hm, hb⟩
    have hlk := run_lookOp infL infN hm s
    rw [hp] at hlk
    go_wp2
    go_region
    all_goals
      go_wp2
      refine bodyPost_ret (results_tmp4 rfl _ _ _) rfl ?_
      exact ⟨rfl, (hb.alloc hb.size _).drew⟩
  | some o =>
    obtain ⟨o1, o2, o3⟩ := o
    go_enter Tryz.func6, Tryz.ntmps6
    go_wp2_with fail
    refine hI.out.mono ?_
    rintro e w1 ⟨rfl, hm, hb⟩
    have hlk := run_lookOp infL infN hm s
    rw [hp] at hlk
    go_wp2
    go_region
    all_goals
      go_wp2
      refine bodyPost_ret (results_tmp4 rfl _ _ _) rfl ?_
      exact ⟨rfl, (hb.alloc hb.size _).drew⟩

set_option maxHeartbeats 2000000 in
set_option maxRecDepth 100000 in
theorem Prefix_calls (s : ByteArray) (w : World) :
    Calls Tryz.prog 8 #[.string s] w fun e w' => e = .returned (.tuple #[.int .i64 (preR (bl s)).1, .int .i64 (preR (bl s)).2.2.1, .bool (preR (bl s)).2.2.2]) ∧ Below w.heap.size w w' := by
  have hu89 := Tryz.underlying48
  have hmm := @run_makeMap Tryz.prog
  have h0 : opEs preL 0 = #[] := rfl
  have h1 := run_putA preL preN w 0 (by decide)
  have h2 := run_putA preL preN w 1 (by decide)
  have h3 := run_putA preL preN w 2 (by decide)
  rw [h0] at h1
  simp only [show preL[0] = ((⟨#[58, 45]⟩, 1200, 0, 1199) : Opr) from rfl] at h1
  simp only [show preL[1] = ((⟨#[92, 43]⟩, 900, 0, 900) : Opr) from rfl] at h2
  simp only [show preL[2] = ((⟨#[45]⟩, 200, 0, 200) : Opr) from rfl] at h3
  clear h0
  have hm : (w.alloc (.map (opEs preL 3) 3)).heap[w.heap.size]? = some (.map (opEs preL preL.length) 3) := (MapKept.heap_alloc w _).1
  have hb : Below w.heap.size w (w.alloc (.map (opEs preL 3) 3)) := (Below.refl _ w).alloc (Nat.le_refl _) _
  have hlk := run_lookOp preL preN hm s
  obtain ⟨p, hp⟩ : ∃ p, opM preL (bl s) = p := ⟨_, rfl⟩
  unfold preR
  rw [hp] at hlk ⊢
  clear hp hm
  rcases p with _ | ⟨o1, o2, o3⟩
  all_goals
    go_enter Tryz.func8, Tryz.ntmps8
    go_wp2
    go_region
    all_goals
      go_wp2
      go_ret3
      exact ⟨rfl, (hb.alloc hb.size _).drew⟩
end Go.Proofs.YtecjdjdfikcliaaGreatDoor
end
section
/-
  The document's operators, in plain Lean: a name among words that blanks part; the tables are the program's.
-/
namespace Go.Proofs.YtecjdjdfikcliaaGreatDoor.Pr
open Go Go.Proofs.YtecjdjdfikcliaaGreatDoor

/-- Is a name one of the words? (The rest of the text, and the word so far.) -/
def inL (n : List UInt8) : List UInt8 → List UInt8 → Bool
  | [], w => decide (w = n) && decide (w ≠ [])
  | b :: r, w => if b = 32 then (if (decide (w = n) && decide (w ≠ [])) = true then true else inL n r []) else inL n r (w ++ [b])
def wordsF : List UInt8 → List UInt8 → List (List UInt8)
  | [], w => [w]
  | b :: r, w => if b = 32 then w :: wordsF r [] else wordsF r (w ++ [b])
theorem inL_any (n : List UInt8) : ∀ (l w : List UInt8), inL n l w = (wordsF l w).any fun x => decide (x = n) && decide (x ≠ [])
  | [], w => by simp [inL, wordsF]
  | b :: r, w => by
    unfold inL wordsF
    by_cases h : b = 32
    · rw [if_pos h, if_pos h, List.any_cons, inL_any n r []]
      cases (decide (w = n) && decide (w ≠ [])) <;> rfl
    · rw [if_neg h, if_neg h]
      exact inL_any n r _
def allA : List UInt8 := [61, 32, 92, 61, 32, 61, 61, 32, 92, 61, 61, 32, 64, 60, 32, 64, 62, 32, 64, 61, 60, 32, 64, 62, 61, 32, 105, 115, 32, 61, 58, 61, 32, 61, 92, 61, 32, 60, 32, 62, 32, 61, 60, 32, 62, 61]
def allB : List UInt8 := [43, 32, 45]
def allC : List UInt8 := [42, 32, 47, 47, 32, 114, 101, 109, 32, 109, 111, 100]
/-- The document's infix operators. -/
def refI (n : List UInt8) : Int × Int × Int × Bool :=
  if n = [58, 45] then (1200, 1199, 1199, true) else if n = [59] then (1100, 1099, 1100, true) else if n = [45, 62] then (1050, 1049, 1050, true) else if n = [44] then (1000, 999, 1000, true)
  else if inL n allA [] = true then (700, 699, 699, true) else if inL n allB [] = true then (500, 500, 499, true) else if inL n allC [] = true then (400, 400, 399, true) else (0, 0, 0, false)
/-- The document's prefix operators. -/
def refP (n : List UInt8) : Int × Int × Bool := if n = [58, 45] then (1200, 1199, true) else if n = [92, 43] then (900, 900, true) else if n = [45] then (200, 200, true) else (0, 0, false)

def nmsL : List (List UInt8) := infL.map fun e => bl e.1
theorem inL_no {n l : List UInt8} (h : ∀ x ∈ nmsL, x ≠ n) (hs : ∀ x ∈ wordsF l [], x ∈ nmsL) : inL n l [] = false := by
  rw [inL_any, List.any_eq_false]
  intro x hx
  simp [h x (hs x hx)]
theorem tab_ok : (nmsL.all fun n => decide (refI n = infR n)) = true := by decide +kernel
theorem refI_eq (n : List UInt8) : refI n = infR n := by
  by_cases hm : n ∈ nmsL
  · exact of_decide_eq_true (List.all_eq_true.1 tab_ok n hm)
  · have h : ∀ x ∈ nmsL, x ≠ n := fun x hx e => hm (e ▸ hx)
    have h1 : n ≠ [58, 45] := fun e => h _ (by decide) e.symm
    have h2 : n ≠ [59] := fun e => h _ (by decide) e.symm
    have h3 : n ≠ [45, 62] := fun e => h _ (by decide) e.symm
    have h4 : n ≠ [44] := fun e => h _ (by decide) e.symm
    have hA := inL_no h (l := allA) (by decide)
    have hB := inL_no h (l := allB) (by decide)
    have hC := inL_no h (l := allC) (by decide)
    unfold refI
    rw [if_neg h1, if_neg h2, if_neg h3, if_neg h4, hA, hB, hC]
    unfold infR opM
    have hf : (infL.find? fun e => decide (bl e.1 = n)) = none := by
      rw [List.find?_eq_none]
      intro e he
      simp only [decide_eq_true_eq]
      exact h _ (List.mem_map_of_mem he)
    rw [hf]
    rfl
theorem refP_eq (n : List UInt8) : refP n = ((preR n).1, (preR n).2.2.1, (preR n).2.2.2) := by
  unfold refP
  by_cases h1 : n = [58, 45]
  · subst h1; decide
  by_cases h2 : n = [92, 43]
  · subst h2; decide
  by_cases h3 : n = [45]
  · subst h3; decide
  rw [if_neg h1, if_neg h2, if_neg h3]
  unfold preR opM
  have hf : (preL.find? fun e => decide (bl e.1 = n)) = none := by
    rw [List.find?_eq_none]
    intro e he
    simp only [decide_eq_true_eq]
    intro hn
    simp only [preL, List.mem_cons, List.not_mem_nil, or_false] at he
    rcases he with rfl | rfl | rfl
    · exact h1 hn.symm
    · exact h2 hn.symm
    · exact h3 hn.symm
  rw [hf]
  rfl
end Go.Proofs.YtecjdjdfikcliaaGreatDoor.Pr
end
