/-
  WriteTells: the walk.
-/
import Derived.Test.YthnjdfblappkfaaDoorMTerm
import Derived.Test.YthnjdfblappkfaaDoorWGreat
namespace Go.Proofs.YthnjdfblappkfaaDoor
open Go.RowKit Go.Proofs.YthnjdfblappkfaaDoorW.PrintWords Go.Proofs.YthnjdfblappkfaaDoorW.PrintLast Go.Proofs.YthnjdfblappkfaaDoorW.PrintMore Go.Proofs.YthnjdfblappkfaaDoor.P

/-- A good term within bounds has a text. -/
theorem good_text (x : S24) (hnum : RefW.numT x = true) (hsz : RefW.sizeT x ≤ 1000) (hnm : RefW.nmT x ≤ 200) : ∃ r : List UInt8, r.length ≤ 450000 ∧ (goodM 64 x = true → textF 1000 x = some r) := by
  cases hg : goodM 64 x with
  | false => exact ⟨[], Nat.zero_le _, fun h => by cases h⟩
  | true =>
    rw [RefW.goodM_eq, Bool.and_eq_true] at hg
    obtain ⟨r, hr, hl⟩ := RefW.text_some 1000 x ⟨hg.2, hnum, hnm⟩ hsz (Nat.le_trans hsz (by decide))
    exact ⟨r, Nat.le_trans hl (by rw [show 450000 = 450 * 1000 from rfl]; exact Nat.mul_le_mul_left _ hsz), fun _ => hr⟩

theorem one_size (x : S24) (h : RefW.sizeTL [x] ≤ 1000 ∧ RefW.nmL [x] ≤ 199) : RefW.sizeT x ≤ 1000 ∧ RefW.nmT x ≤ 200 := by
  obtain ⟨h1, h2⟩ := h
  refine ⟨Nat.le_trans (RefW.sizeT_mem [x] x (by simp)) h1, ?_⟩
  exact Nat.le_trans ((RefW.nmL_le [x] 199).1 h2 x (by simp)) (by decide)

/-- The texts of a term that is not great: the program's and the document's. -/
structure Both (w : World) (x : S24) (t : ByteArray) : Prop where
  text : ∀ W v, Below w.heap.size w W → TermV W x v → Calls Tryd.prog 15 #[v] W fun e w' => e = .returned (.string t) ∧ Below W.heap.size W w'
  good : ∀ W v, Below w.heap.size w W → TermV W x v → Calls Tryd.prog 16 #[v] W fun e w' => e = .returned (.string t) ∧ Below W.heap.size W w'
  len : t.size ≤ 450000
theorem both_of (w : World) (hL : LaidW w) (x : S24) (hnum : RefW.numT x = true) (hsz : RefW.sizeT x ≤ 1000) (hnm : RefW.nmT x ≤ 200) : ∃ t, Both w x t := by
  obtain ⟨r, hl, hr⟩ := good_text x hnum hsz hnm
  refine ⟨⟨(if goodM 64 x = true then r else []).toArray⟩, fun W v hb hV => Text_calls 1000 x v r W (hL.below hb) hV hr, fun W v hb hV => GoodText_calls 1000 x v r W hV (Nat.le_trans hsz (by decide)) (Nat.le_trans hnm (by decide)) hr, ?_⟩
  show (List.toArray _).size ≤ _
  rw [List.size_toArray]
  split
  · exact hl
  · exact Nat.zero_le _

theorem RefW.cell_later' {W W' : World} {a : Addr} {v : Value} (h : W.cell? a = some v) (hb : Below W.heap.size W W') : W'.cell? a = some v := (hb.cell (World.block_lt_of_cell? W _ h)).trans h

set_option maxHeartbeats 4000000 in
set_option maxRecDepth 100000 in
theorem WriteTells_calls (x : S24) (v : Value) (s : ByteArray) (w : World) (hL : LaidW w) (hV : TermV w x v) (hnum : RefW.numT x = true) (hnm : RefW.nmT x ≤ 140737488355328) :
    Calls Tryd.prog 3 #[v, .string s] w fun e w' => e = .returned (.bool true) ∧ Below w.heap.size w w' := by
  have hu24 := Tryd.underlying24
  obtain ⟨A, c, rfl, hc, hC⟩ := hV
  have hbx : Below w.heap.size w (w.alloc (.cells #[.int .u8 x.f0, .string x.f1, .int .i64 x.f2, .slice A x.f3.length c] 24)) := (Below.refl _ w).alloc (Nat.le_refl _) _
  have hT := (MapKept.heap_alloc w (.cells #[.int .u8 x.f0, .string x.f1, .int .i64 x.f2, .slice A x.f3.length c] 24)).1
  have hs1 : w.heap.size < (w.alloc (.cells #[.int .u8 x.f0, .string x.f1, .int .i64 x.f2, .slice A x.f3.length c] 24)).heap.size := by rw [World.size_alloc]; exact Nat.lt_succ_self _
  obtain ⟨w1, hw1⟩ : ∃ w1, w.alloc (.cells #[.int .u8 x.f0, .string x.f1, .int .i64 x.f2, .slice A x.f3.length c] 24) = w1 := ⟨_, rfl⟩
  rw [hw1] at hbx hT hs1
  have hC1 := Kd.C_below hC hbx
  have a0 := Lib.cell_of_heap hT 0
  have a1 := Lib.cell_of_heap hT 1
  have a2 := Lib.cell_of_heap hT 2
  have a3 := Lib.cell_of_heap hT 3
  have hb2 := (Below.refl w1.heap.size w1).alloc (Nat.le_refl _) (.cells (cellsOf [(x, A, c)]).toArray 24)
  obtain ⟨b, hgr, hcall⟩ := RefW.Great_calls _ 1 [x] _ (lit_C w1 [(x, A, c)] (by simp) (by intro p hp; simp at hp; subst hp; exact ⟨hc, hC1⟩)) (by simp) (by simp only [RefW.nmL]; exact Nat.max_le.2 ⟨hnm, Nat.zero_le _⟩)
  have HG := Lib.hid hcall
  have HGR := Lib.hid hgr
  clear hcall hgr hnm
  go_enter Tryd.func3, Tryd.ntmps3
  go_wp2_with fail
  refine HG.out.mono ?_
  rintro e w2 ⟨rfl, hb2'⟩
  have hB2 : Below w.heap.size w w2 := hbx.trans ((hb2.trans (hb2'.mono hb2.size)).mono hbx.size)
  have hT2 := ((hb2.trans (hb2'.mono hb2.size)).block w.heap.size hs1).trans hT
  have hV2 : TermV w2 x (.agg #[.int .u8 x.f0, .string x.f1, .int .i64 x.f2, .slice A x.f3.length c]) := ⟨A, c, rfl, hc, Kd.C_below hC1 (hb2.trans (hb2'.mono hb2.size))⟩
  have hL2 := hL.below hB2
  have hl2 := (Array.getElem?_eq_some_iff.1 hT2).1
  clear HG hb2 hb2' hC1 hC hc hw1 hbx hT a0 a1 a2 a3 hs1
  cases b with
  | true =>
    go_wp2_with fail
    refine (wakes_calls _ hL2).mono ?_
    rintro e w3 ⟨rfl, hb3⟩
    go_wp2
    go_ret
    exact ⟨rfl, hB2.trans (hb3.mono hB2.size)⟩
  | false =>
    obtain ⟨hsz, hnm⟩ := one_size x (HGR.out rfl)
    obtain ⟨t, ht⟩ := both_of w2 hL2 x hnum hsz hnm
    clear HGR hnum hsz hnm
    by_cases hs : s.size ≤ 200
    · have hsd : decide ((s.size : Int) > 200) = false := decide_eq_false (by omega)
      obtain ⟨nm, hnmE⟩ : ∃ nm : ByteArray, (⟨(nameM (bl s)).toArray⟩ : ByteArray) = nm := ⟨_, rfl⟩
      have HN := Lib.hid (fun W hW => write_Name.walk s W (by omega) hW)
      have HR := Lib.hid (fun W => RefW.Name_calls s W (by omega))
      rw [hnmE] at HN HR
      have HT := Lib.hid ht
      clear hnmE ht hs
      have HS : Hid (∀ W', Below w2.heap.size w2 W' → W'.cell? ⟨w.heap.size, 0, none⟩ = some (.int .u8 x.f0) ∧ W'.cell? ⟨w.heap.size, 1, none⟩ = some (.string x.f1) ∧ W'.cell? ⟨w.heap.size, 2, none⟩ = some (.int .i64 x.f2) ∧ W'.cell? ⟨w.heap.size, 3, none⟩ = some (.slice A x.f3.length c)) :=
        fun W' h => ⟨RefW.cell_later' (Lib.cell_of_heap hT2 0) h, RefW.cell_later' (Lib.cell_of_heap hT2 1) h, RefW.cell_later' (Lib.cell_of_heap hT2 2) h, RefW.cell_later' (Lib.cell_of_heap hT2 3) h⟩
      have HV := Lib.hid hV2
      have HLL := Lib.hid hL2
      have HB := Lib.hid hB2
      clear hV2 hL2 hT2 hB2 hL
      go_wp2_with fail
      go_region_held (fun W' => W'.cell? ⟨w.heap.size, 0, none⟩ = some (.int .u8 x.f0) ∧ W'.cell? ⟨w.heap.size, 1, none⟩ = some (.string x.f1) ∧ W'.cell? ⟨w.heap.size, 2, none⟩ = some (.int .i64 x.f2) ∧ W'.cell? ⟨w.heap.size, 3, none⟩ = some (.slice A x.f3.length c))
        (first | exact HS.out _ ((Below.refl _ w2).drew) | exact HS.out _ hb3 | exact HS.out _ hb4 | exact HS.out _ hb5 | exact HS.out _ hb6 | exact HS.out _ hb7)
        (first
          | (go_at_call 15; refine (HT.out.text _ _ ((Below.refl _ w2).drew) (TermV.below HV.out ((Below.refl _ w2).drew))).mono ?_; rintro e w3 ⟨rfl, hb3'⟩; have hb3 : Below w2.heap.size w2 w3 := ((Below.refl _ w2).drew).trans hb3')
          | (go_at_call 16; refine (HT.out.good _ _ hb3 (TermV.below HV.out hb3)).mono ?_; rintro e w4 ⟨rfl, hb4'⟩; have hb4 : Below w2.heap.size w2 w4 := hb3.trans (hb4'.mono hb3.size))
          | (go_at_call 17; refine (HN.out _ (HLL.out.below hb4)).mono ?_; rintro e w5 ⟨rfl, hb5'⟩; have hb5 : Below w2.heap.size w2 w5 := hb4.trans (hb5'.mono hb4.size))
          | (go_at_call 18; refine (HR.out _).mono ?_; rintro e w6 ⟨rfl, hb6'⟩; have hb6 : Below w2.heap.size w2 w6 := hb5.trans (hb6'.mono hb5.size))
          | (go_at_call 14; refine (wakes_calls _ (HLL.out.below hb6)).mono ?_; rintro e w7 ⟨rfl, hb7'⟩; have hb7 : Below w2.heap.size w2 w7 := hb6.trans (hb7'.mono hb6.size)))
      all_goals
        go_wp2
        go_ret
        exact ⟨rfl, HB.out.trans (hb7.mono HB.out.size)⟩
    · have hsd : decide ((s.size : Int) > 200) = true := decide_eq_true (by omega)
      clear ht hs
      go_wp2_with fail
      refine (wakes_calls _ hL2).mono ?_
      rintro e w3 ⟨rfl, hb3⟩
      go_wp2
      go_ret
      exact ⟨rfl, hB2.trans (hb3.mono hB2.size)⟩
end Go.Proofs.YthnjdfblappkfaaDoor
