/-
  WriteApart: the walk.
-/
import Derived.Test.YthnjdfblappkfaaDoorSame
import Derived.Test.YthnjdfblappkfaaDoorWTells
namespace Go.Proofs.YthnjdfblappkfaaDoor
open Go.RowKit Go.Proofs.YthnjdfblappkfaaDoorW.PrintWords Go.Proofs.YthnjdfblappkfaaDoorW.PrintLast Go.Proofs.YthnjdfblappkfaaDoorW.PrintMore Go.Proofs.YthnjdfblappkfaaDoor.P

theorem two_sizes (x y : S24) (h : RefW.sizeTL [x, y] ≤ 1000 ∧ RefW.nmL [x, y] ≤ 199) : (RefW.sizeT x ≤ 1000 ∧ RefW.nmT x ≤ 200) ∧ RefW.sizeT y ≤ 1000 ∧ RefW.nmT y ≤ 200 := by
  obtain ⟨h1, h2⟩ := h
  have hm := (RefW.nmL_le [x, y] 199).1 h2
  have hs := fun z hz => Nat.le_trans (RefW.sizeT_mem [x, y] z hz) h1
  exact ⟨⟨hs x (by simp), Nat.le_trans (hm x (by simp)) (by decide)⟩, hs y (by simp), Nat.le_trans (hm y (by simp)) (by decide)⟩

/-- What the law compares of two good terms. -/
theorem apart_facts (x y : S24) (hx : goodM 64 x = true) (hy : goodM 64 y = true) (nx : RefW.numT x = true) (ny : RefW.numT y = true) (sx : RefW.sizeT x ≤ 1000 ∧ RefW.nmT x ≤ 200) (sy : RefW.sizeT y ≤ 1000 ∧ RefW.nmT y ≤ 200) :
    ∃ ra rb : List UInt8, textF 1000 x = some ra ∧ textF 1000 y = some rb ∧ (((⟨ra.toArray⟩ : ByteArray).toList == (⟨rb.toArray⟩ : ByteArray).toList) = sameT x y) ∧
      (((⟨(nameM (bl x.f1)).toArray⟩ : ByteArray).toList == (⟨(nameM (bl y.f1)).toArray⟩ : ByteArray).toList) = (x.f1.toList == y.f1.toList)) ∧ x.f1.size ≤ 200 ∧ y.f1.size ≤ 200 := by
  rw [RefW.goodM_eq, Bool.and_eq_true] at hx hy
  have fx : RefW.Fine x := ⟨hx.2, nx, sx.2⟩
  have fy : RefW.Fine y := ⟨hy.2, ny, sy.2⟩
  obtain ⟨ra, hra, _⟩ := RefW.text_some 1000 x fx sx.1 (Nat.le_trans sx.1 (by decide))
  obtain ⟨rb, hrb, _⟩ := RefW.text_some 1000 y fy sy.1 (Nat.le_trans sy.1 (by decide))
  have e1 : ∀ l : List UInt8, bl (⟨l.toArray⟩ : ByteArray) = l := fun l => by simp [bl]
  refine ⟨ra, rb, hra, hrb, ?_, ?_, ?_, ?_⟩
  · rw [strEq, e1, e1, Bool.eq_iff_iff, decide_eq_true_iff, sameT_iff]
    exact RefW.text_inj fx fy hra hrb
  · rw [strEq, strEq, e1, e1, Bool.eq_iff_iff, decide_eq_true_iff, decide_eq_true_iff]
    exact ⟨RefW.nameM_inj, fun h => by rw [h]⟩
  · have := sx.2
    rw [RefW.nmT_eq] at this
    exact Nat.le_trans (Nat.le_max_left _ _) this
  · have := sy.2
    rw [RefW.nmT_eq] at this
    exact Nat.le_trans (Nat.le_max_left _ _) this

set_option maxHeartbeats 8000000 in
set_option maxRecDepth 100000 in
theorem WriteApart_calls (x y : S24) (v u : Value) (w : World) (hL : LaidW w) (hV : TermV w x v) (hU : TermV w y u) (nx : RefW.numT x = true) (ny : RefW.numT y = true) (hnx : RefW.nmT x ≤ 140737488355328) (hny : RefW.nmT y ≤ 140737488355328) :
    Calls Tryd.prog 6 #[v, u] w fun e w' => e = .returned (.bool true) ∧ Below w.heap.size w w' := by
  have hu24 := Tryd.underlying24
  obtain ⟨A, c, rfl, hc, hC⟩ := hV
  obtain ⟨B, d, rfl, hd, hD⟩ := hU
  obtain ⟨w0, hw0⟩ : ∃ w0, w.alloc (.cells #[.int .u8 x.f0, .string x.f1, .int .i64 x.f2, .slice A x.f3.length c] 24) = w0 := ⟨_, rfl⟩
  have hb0 : Below w.heap.size w w0 := by rw [← hw0]; exact (Below.refl _ w).alloc (Nat.le_refl _) _
  have hT0 : w0.heap[w.heap.size]? = some (.cells #[.int .u8 x.f0, .string x.f1, .int .i64 x.f2, .slice A x.f3.length c] 24 (0, 0)) := by rw [← hw0]; exact (MapKept.heap_alloc w _).1
  have hs0 : w0.heap.size = w.heap.size + 1 := by rw [← hw0]; exact World.size_alloc _ _
  obtain ⟨w1, hw1⟩ : ∃ w1, w0.alloc (.cells #[.int .u8 y.f0, .string y.f1, .int .i64 y.f2, .slice B y.f3.length d] 24) = w1 := ⟨_, rfl⟩
  have hb1 : Below w.heap.size w w1 := by rw [← hw1]; exact hb0.alloc hb0.size _
  have hU1 : w1.heap[w.heap.size + 1]? = some (.cells #[.int .u8 y.f0, .string y.f1, .int .i64 y.f2, .slice B y.f3.length d] 24 (0, 0)) := by rw [← hs0, ← hw1]; exact (MapKept.heap_alloc w0 _).1
  have hT1 : w1.heap[w.heap.size]? = some (.cells #[.int .u8 x.f0, .string x.f1, .int .i64 x.f2, .slice A x.f3.length c] 24 (0, 0)) := by
    rw [← hT0, ← hw1]
    exact Below.heap_alloc _ _ _ (by omega)
  have hs1 : w1.heap.size = w.heap.size + 2 := by rw [← hw1, World.size_alloc, hs0]
  have hC1 := Kd.C_below hC hb1
  have hD1 := Kd.C_below hD hb1
  have a0 := Lib.cell_of_heap hT1 0
  have a1 := Lib.cell_of_heap hT1 1
  have a2 := Lib.cell_of_heap hT1 2
  have a3 := Lib.cell_of_heap hT1 3
  have b0 := Lib.cell_of_heap hU1 0
  have b1 := Lib.cell_of_heap hU1 1
  have b2 := Lib.cell_of_heap hU1 2
  have b3 := Lib.cell_of_heap hU1 3
  have hbl := (Below.refl w1.heap.size w1).alloc (Nat.le_refl _) (.cells (cellsOf [(x, A, c), (y, B, d)]).toArray 24)
  obtain ⟨b, hgr, hcall⟩ := RefW.Great_calls _ 2 [x, y] _ (lit_C w1 [(x, A, c), (y, B, d)] (by simp) (by intro p hp; simp at hp; rcases hp with rfl | rfl; exact ⟨hc, hC1⟩; exact ⟨hd, hD1⟩)) (by simp) (by simp only [RefW.nmL]; exact Nat.max_le.2 ⟨hnx, Nat.max_le.2 ⟨hny, Nat.zero_le _⟩⟩)
  rw [show [x, y].length = 2 from rfl, hs1] at hcall
  have HG := Lib.hid hcall
  have HGR := Lib.hid hgr
  clear hcall hgr hnx hny
  go_enter Tryd.func6, Tryd.ntmps6
  go_wp2_with fail
  refine HG.out.mono ?_
  rintro e w2 ⟨rfl, hb2'⟩
  have hb12 : Below w1.heap.size w1 w2 := hbl.trans (hb2'.mono hbl.size)
  have hB2 : Below w.heap.size w w2 := hb1.trans (hb12.mono hb1.size)
  have hT2 := (hb12.block w.heap.size (by omega)).trans hT1
  have hU2 := (hb12.block (w.heap.size + 1) (by omega)).trans hU1
  have hV2 : TermV w2 x (.agg #[.int .u8 x.f0, .string x.f1, .int .i64 x.f2, .slice A x.f3.length c]) := ⟨A, c, rfl, hc, Kd.C_below hC1 hb12⟩
  have hW2 : TermV w2 y (.agg #[.int .u8 y.f0, .string y.f1, .int .i64 y.f2, .slice B y.f3.length d]) := ⟨B, d, rfl, hd, Kd.C_below hD1 hb12⟩
  have hL2 := hL.below hB2
  have hz2 : w.heap.size + 2 ≤ w2.heap.size := by have := hb12.size; omega
  clear HG hbl hb2' hb12 hC1 hD1 hC hD hc hd hw0 hw1 hT0 hT1 hU1 a0 a1 a2 a3 b0 b1 b2 b3 hb0 hb1 hs1
  cases b with
  | true =>
    go_wp2_with fail
    refine (wakes_calls _ hL2).mono ?_
    rintro e w3 ⟨rfl, hb3⟩
    go_wp2
    go_ret
    exact ⟨rfl, hB2.trans (hb3.mono hB2.size)⟩
  | false =>
    obtain ⟨sx, sy⟩ := two_sizes x y (HGR.out rfl)
    have a0 := Lib.cell_of_heap hT2 0
    have a1 := Lib.cell_of_heap hT2 1
    have a2 := Lib.cell_of_heap hT2 2
    have a3 := Lib.cell_of_heap hT2 3
    have hg1 := Good_calls x _ w2 hV2
    obtain ⟨gx, hgx⟩ : ∃ g, goodM 64 x = g := ⟨_, rfl⟩
    rw [hgx] at hg1
    have HG1 := Lib.hid hg1
    clear hg1 HGR
    go_wp2_with fail
    go_at_call 20
    refine HG1.out.mono ?_
    rintro e w3 ⟨rfl, hb3⟩
    have hB3 := hB2.trans (hb3.mono hB2.size)
    have hT3 := (hb3.block w.heap.size (by omega)).trans hT2
    have hU3 := (hb3.block (w.heap.size + 1) (by omega)).trans hU2
    have hV3 := hV2.below hb3
    have hW3 := hW2.below hb3
    have hL3 := hL2.below hb3
    have hz3 : w.heap.size + 2 ≤ w3.heap.size := Nat.le_trans hz2 hb3.size
    clear HG1 hT2 hU2 hV2 hW2 hL2 hb3 hB2 hz2 a0 a1 a2 a3
    cases gx with
    | false =>
      go_wp2_with fail
      refine (wakes_calls _ hL3).mono ?_
      rintro e w4 ⟨rfl, hb4⟩
      go_wp2
      go_ret
      exact ⟨rfl, hB3.trans (hb4.mono hB3.size)⟩
    | true =>
      have b0 := Lib.cell_of_heap hU3 0
      have b1 := Lib.cell_of_heap hU3 1
      have b2 := Lib.cell_of_heap hU3 2
      have b3 := Lib.cell_of_heap hU3 3
      have hg1 := Good_calls y _ w3 hW3
      obtain ⟨gy, hgy⟩ : ∃ g, goodM 64 y = g := ⟨_, rfl⟩
      rw [hgy] at hg1
      have HG1 := Lib.hid hg1
      clear hg1
      go_wp2_with fail
      go_at_call 20
      refine HG1.out.mono ?_
      rintro e w4 ⟨rfl, hb4⟩
      have hB4 := hB3.trans (hb4.mono hB3.size)
      have hT4 := (hb4.block w.heap.size (by omega)).trans hT3
      have hU4 := (hb4.block (w.heap.size + 1) (by omega)).trans hU3
      have hV4 := hV3.below hb4
      have hW4 := hW3.below hb4
      have hL4 := hL3.below hb4
      have hz4 : w.heap.size + 2 ≤ w4.heap.size := Nat.le_trans hz3 hb4.size
      clear HG1 hT3 hU3 hV3 hW3 hL3 hb4 hB3 hz3 b0 b1 b2 b3
      cases gy with
      | false =>
        go_wp2_with fail
        refine (wakes_calls _ hL4).mono ?_
        rintro e w5 ⟨rfl, hb5⟩
        go_wp2
        go_ret
        exact ⟨rfl, hB4.trans (hb5.mono hB4.size)⟩
      | true =>
        obtain ⟨ra, rb, hra, hrb, E1, E2, l1, l2⟩ := apart_facts x y hgx hgy nx ny sx sy
        have HT1 : Hid (∀ W V, LaidW W → TermV W x V → Calls Tryd.prog 15 #[V] W fun e w' => e = .returned (.string ⟨ra.toArray⟩) ∧ Below W.heap.size W w') := fun W V hW hV => by
          have := Text_calls 1000 x V ra W hW hV (fun _ => hra)
          rw [if_pos hgx] at this
          exact this
        have HT2 : Hid (∀ W V, LaidW W → TermV W y V → Calls Tryd.prog 15 #[V] W fun e w' => e = .returned (.string ⟨rb.toArray⟩) ∧ Below W.heap.size W w') := fun W V hW hV => by
          have := Text_calls 1000 y V rb W hW hV (fun _ => hrb)
          rw [if_pos hgy] at this
          exact this
        have HS1 : Hid (∀ W V U, TermV W x V → TermV W y U → Calls Tryd.prog 23 #[V, U] W fun e w' => e = .returned (.bool (sameT x y)) ∧ Below W.heap.size W w') := fun W V U hV hU =>
          sameOK 1000000 (by decide) x y V U W (Nat.le_trans sx.1 (by decide)) hV hU
        have HN1 : Hid (∀ W, LaidW W → Calls Tryd.prog 17 #[.string x.f1] W fun e w' => e = .returned (.string ⟨(nameM (bl x.f1)).toArray⟩) ∧ Below W.heap.size W w') := fun W hW => write_Name.walk x.f1 W (by omega) hW
        have HN2 : Hid (∀ W, LaidW W → Calls Tryd.prog 17 #[.string y.f1] W fun e w' => e = .returned (.string ⟨(nameM (bl y.f1)).toArray⟩) ∧ Below W.heap.size W w') := fun W hW => write_Name.walk y.f1 W (by omega) hW
        obtain ⟨ta, hta⟩ : ∃ t : ByteArray, (⟨ra.toArray⟩ : ByteArray) = t := ⟨_, rfl⟩
        obtain ⟨tb, htb⟩ : ∃ t : ByteArray, (⟨rb.toArray⟩ : ByteArray) = t := ⟨_, rfl⟩
        obtain ⟨na, hna⟩ : ∃ t : ByteArray, (⟨(nameM (bl x.f1)).toArray⟩ : ByteArray) = t := ⟨_, rfl⟩
        obtain ⟨nb, hnb⟩ : ∃ t : ByteArray, (⟨(nameM (bl y.f1)).toArray⟩ : ByteArray) = t := ⟨_, rfl⟩
        obtain ⟨p, hp⟩ : ∃ p, sameT x y = p := ⟨_, rfl⟩
        obtain ⟨q, hq⟩ : ∃ q, (x.f1.toList == y.f1.toList) = q := ⟨_, rfl⟩
        rw [hta, htb, hp] at E1
        rw [hna, hnb, hq] at E2
        rw [hta] at HT1
        rw [htb] at HT2
        rw [hp] at HS1
        rw [hna] at HN1
        rw [hnb] at HN2
        have HV := Lib.hid hV4
        have HW := Lib.hid hW4
        have HLL := Lib.hid hL4
        have HB := Lib.hid hB4
        have HS : Hid (∀ W', Below w4.heap.size w4 W' → W'.cell? ⟨w.heap.size, 0, none⟩ = some (.int .u8 x.f0) ∧ W'.cell? ⟨w.heap.size, 1, none⟩ = some (.string x.f1) ∧ W'.cell? ⟨w.heap.size, 2, none⟩ = some (.int .i64 x.f2) ∧ W'.cell? ⟨w.heap.size, 3, none⟩ = some (.slice A x.f3.length c) ∧
            W'.cell? ⟨w.heap.size + 1, 0, none⟩ = some (.int .u8 y.f0) ∧ W'.cell? ⟨w.heap.size + 1, 1, none⟩ = some (.string y.f1) ∧ W'.cell? ⟨w.heap.size + 1, 2, none⟩ = some (.int .i64 y.f2) ∧ W'.cell? ⟨w.heap.size + 1, 3, none⟩ = some (.slice B y.f3.length d)) :=
          fun W' h => ⟨RefW.cell_later' (Lib.cell_of_heap hT4 0) h, RefW.cell_later' (Lib.cell_of_heap hT4 1) h, RefW.cell_later' (Lib.cell_of_heap hT4 2) h, RefW.cell_later' (Lib.cell_of_heap hT4 3) h,
            RefW.cell_later' (Lib.cell_of_heap hU4 0) h, RefW.cell_later' (Lib.cell_of_heap hU4 1) h, RefW.cell_later' (Lib.cell_of_heap hU4 2) h, RefW.cell_later' (Lib.cell_of_heap hU4 3) h⟩
        clear hV4 hW4 hL4 hB4 hT4 hU4 hL hgx hgy nx ny sx sy hra hrb l1 l2 hta htb hna hnb hp hz4
        cases p <;> cases q <;>
          (go_wp2_with fail
           go_region_held (fun W' => W'.cell? ⟨w.heap.size, 0, none⟩ = some (.int .u8 x.f0) ∧ W'.cell? ⟨w.heap.size, 1, none⟩ = some (.string x.f1) ∧ W'.cell? ⟨w.heap.size, 2, none⟩ = some (.int .i64 x.f2) ∧ W'.cell? ⟨w.heap.size, 3, none⟩ = some (.slice A x.f3.length c) ∧
            W'.cell? ⟨w.heap.size + 1, 0, none⟩ = some (.int .u8 y.f0) ∧ W'.cell? ⟨w.heap.size + 1, 1, none⟩ = some (.string y.f1) ∧ W'.cell? ⟨w.heap.size + 1, 2, none⟩ = some (.int .i64 y.f2) ∧ W'.cell? ⟨w.heap.size + 1, 3, none⟩ = some (.slice B y.f3.length d))
             (first | exact HS.out _ ((Below.refl _ w4).drew) | exact HS.out _ hb5 | exact HS.out _ hb6 | exact HS.out _ hb7 | exact HS.out _ hb8 | exact HS.out _ hb9 | exact HS.out _ hb10)
             (first
               | (go_at_call 15; refine (HT1.out _ _ (HLL.out.below ((Below.refl _ w4).drew)) (TermV.below HV.out ((Below.refl _ w4).drew))).mono ?_; rintro e w5 ⟨rfl, hb5'⟩; have hb5 : Below w4.heap.size w4 w5 := ((Below.refl _ w4).drew).trans hb5')
               | (go_at_call 15; refine (HT2.out _ _ (HLL.out.below hb5) (TermV.below HW.out hb5)).mono ?_; rintro e w6 ⟨rfl, hb6'⟩; have hb6 : Below w4.heap.size w4 w6 := hb5.trans (hb6'.mono hb5.size))
               | (go_at_call 23; refine (HS1.out _ _ _ (TermV.below HV.out hb6) (TermV.below HW.out hb6)).mono ?_; rintro e w7 ⟨rfl, hb7'⟩; have hb7 : Below w4.heap.size w4 w7 := hb6.trans (hb7'.mono hb6.size))
               | (go_at_call 17; refine (HN1.out _ (HLL.out.below hb7)).mono ?_; rintro e w8 ⟨rfl, hb8'⟩; have hb8 : Below w4.heap.size w4 w8 := hb7.trans (hb8'.mono hb7.size))
               | (go_at_call 17; refine (HN2.out _ (HLL.out.below hb8)).mono ?_; rintro e w9 ⟨rfl, hb9'⟩; have hb9 : Below w4.heap.size w4 w9 := hb8.trans (hb9'.mono hb8.size))
               | (go_at_call 14; refine (wakes_calls _ (HLL.out.below hb9)).mono ?_; rintro e w10 ⟨rfl, hb10'⟩; have hb10 : Below w4.heap.size w4 w10 := hb9.trans (hb10'.mono hb9.size)))
           all_goals
             go_wp2
             go_ret
             exact ⟨rfl, HB.out.trans (hb10.mono HB.out.size)⟩)
end Go.Proofs.YthnjdfblappkfaaDoor
