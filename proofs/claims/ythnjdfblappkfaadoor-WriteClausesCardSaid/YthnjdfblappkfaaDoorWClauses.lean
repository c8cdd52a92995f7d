/-
  WriteClauses: the walk.
-/
import Derived.Test.YthnjdfblappkfaaDoorWClause
namespace Go.Proofs.YthnjdfblappkfaaDoor
open Go.RowKit Go.Proofs.YthnjdfblappkfaaDoorW.PrintWords Go.Proofs.YthnjdfblappkfaaDoorW.PrintLast Go.Proofs.YthnjdfblappkfaaDoorW.PrintMore Go.Proofs.YthnjdfblappkfaaDoor.P

theorem sizes_of (hd : S24) (bd : List S24) (h : RefW.sizeTL ([hd] ++ bd) ≤ 1000 ∧ RefW.nmL ([hd] ++ bd) ≤ 199) :
    (RefW.sizeT hd ≤ 1000 ∧ RefW.nmT hd ≤ 200) ∧ bd.length ≤ 1000 ∧ ∀ i (hi : i < bd.length), RefW.sizeT bd[i] ≤ 1000 ∧ RefW.nmT bd[i] ≤ 200 := by
  obtain ⟨h1, h2⟩ := h
  have hm := (RefW.nmL_le ([hd] ++ bd) 199).1 h2
  have hs := fun x hx => Nat.le_trans (RefW.sizeT_mem ([hd] ++ bd) x hx) h1
  have hl := RefW.sizeTL_len ([hd] ++ bd)
  refine ⟨⟨hs hd (by simp), Nat.le_trans (hm hd (by simp)) (by decide)⟩, ?_, fun i hi => ⟨hs _ (by simp), Nat.le_trans (hm _ (by simp)) (by decide)⟩⟩
  rw [List.length_append, List.length_singleton] at hl
  exact Nat.le_trans (Nat.le_trans (Nat.le_add_left _ _) hl) h1

theorem texts_of (w : World) (hL : LaidW w) (bd : List S24) (hnum : RefW.numL bd = true) (h : ∀ i (hi : i < bd.length), RefW.sizeT bd[i] ≤ 1000 ∧ RefW.nmT bd[i] ≤ 200) :
    ∃ ts : Nat → List UInt8, (∀ i, (ts i).length ≤ 450000) ∧ ∀ i (hi : i < bd.length), Both w bd[i] ⟨(ts i).toArray⟩ := by
  have key : ∀ i, ∃ r : List UInt8, r.length ≤ 450000 ∧ ∀ (hi : i < bd.length), Both w bd[i] ⟨r.toArray⟩ := by
    intro i
    by_cases hi : i < bd.length
    · rw [RefW.numL_all, List.all_eq_true] at hnum
      obtain ⟨r, h1, h2⟩ := both_list w hL bd[i] (hnum _ (List.getElem_mem hi)) (h i hi).1 (h i hi).2
      exact ⟨r, h1, fun _ => h2⟩
    · exact ⟨[], Nat.zero_le _, fun q => absurd q hi⟩
  exact ⟨fun i => Classical.choose (key i), fun i => (Classical.choose_spec (key i)).1, fun i => (Classical.choose_spec (key i)).2⟩

set_option maxHeartbeats 8000000 in
set_option maxRecDepth 100000 in
theorem WriteClauses_calls (hd : S24) (bd : List S24) (n : Int) (A B : Option Addr) (c d : Nat) (w : World) (hL : LaidW w)
    (hcA : hd.f3.length ≤ c) (hCA : Kd.C k24 w A hd.f3.length hd.f3) (hCB : Kd.C k24 w B bd.length bd)
    (hnumH : RefW.numT hd = true) (hnumB : RefW.numL bd = true) (hnm : RefW.nmL ([hd] ++ bd) ≤ 140737488355328) (hlen : (1 + bd.length) * 56 ≤ 140737488355328) :
    Calls Tryd.prog 5 #[.agg #[.int .u8 hd.f0, .string hd.f1, .int .i64 hd.f2, .slice A hd.f3.length c, .slice B bd.length d, .int .i64 n]] w fun e w' => e = .returned (.bool true) ∧ Below w.heap.size w w' := by
  have hu24 := Tryd.underlying24
  have hu35 := Tryd.underlying35
  have hbx : Below w.heap.size w (w.alloc (.cells #[.int .u8 hd.f0, .string hd.f1, .int .i64 hd.f2, .slice A hd.f3.length c, .slice B bd.length d, .int .i64 n] 35)) := (Below.refl _ w).alloc (Nat.le_refl _) _
  have hT := (MapKept.heap_alloc w (.cells #[.int .u8 hd.f0, .string hd.f1, .int .i64 hd.f2, .slice A hd.f3.length c, .slice B bd.length d, .int .i64 n] 35)).1
  have hs1 : w.heap.size < (w.alloc (.cells #[.int .u8 hd.f0, .string hd.f1, .int .i64 hd.f2, .slice A hd.f3.length c, .slice B bd.length d, .int .i64 n] 35)).heap.size := by rw [World.size_alloc]; exact Nat.lt_succ_self _
  obtain ⟨w1, hw1⟩ : ∃ w1, w.alloc (.cells #[.int .u8 hd.f0, .string hd.f1, .int .i64 hd.f2, .slice A hd.f3.length c, .slice B bd.length d, .int .i64 n] 35) = w1 := ⟨_, rfl⟩
  rw [hw1] at hbx hT hs1
  have hCA1 := Kd.C_below hCA hbx
  have hCB1 := Kd.C_below hCB hbx
  have a0 := Lib.cell_of_heap hT 0
  have a1 := Lib.cell_of_heap hT 1
  have a2 := Lib.cell_of_heap hT 2
  have a3 := Lib.cell_of_heap hT 3
  have a4 := Lib.cell_of_heap hT 4
  obtain ⟨inner, hown, hrep⟩ := OwnRow.lit (e := 24) w1 w1.heap.size (cellsOf_reps w1 [(hd, A, c)] (by intro p hp; simp at hp; subst hp; exact ⟨hcA, hCA1⟩)) (Nat.le_refl _) (by simp)
  have hrep' : Reps (k24.K w1) 4 [hd] inner := hrep
  have hbl : Below w1.heap.size w1 (w1.alloc (.cells (cellsOf [(hd, A, c)]).toArray 24)) := (Below.refl _ w1).alloc (Nat.le_refl _) _
  have HOWN := Lib.hid hown
  have HREP := Lib.hid hrep'
  have HCB := Lib.hid hCB1
  have HNM := Lib.hid hnm
  have HBL := Lib.hid hbl
  have HLEN := Lib.hid hlen
  clear hCA hCB hown hrep hrep' hCB1 hnm hbl hlen
  go_enter Tryd.func5, Tryd.ntmps5
  go_wp2_with (at_builtin; refine append_terms w1 _ rfl _ _ rfl _ [hd] bd inner rfl HOWN.out HREP.out HBL.out B d rfl HCB.out HLEN.out ?_)
  intro A' c' w2 hc' hC' hb2
  have hB2 := hbx.trans (hb2.mono hbx.size)
  have hT2 := (hb2.block w.heap.size hs1).trans hT
  have hs2 := Nat.lt_of_lt_of_le hs1 hb2.size
  have eL : [hd].length + bd.length = ([hd] ++ bd).length := by rw [List.length_append]
  have hG := RefW.Great_calls A' c' ([hd] ++ bd) w2 (by rw [← eL]; exact hC') (by rw [← eL]; exact hc') HNM.out
  rw [← eL] at hG
  obtain ⟨b, hgr, hcall⟩ := hG
  have HG := Lib.hid hcall
  have HGR := Lib.hid hgr
  have HCA := Lib.hid (Kd.C_below hCA1 hb2)
  have HCB2 := Lib.hid (Kd.C_below HCB.out hb2)
  clear hcall hgr hC' hCA1 a0 a1 a2 a3 a4 HOWN HREP HBL HCB
  go_wp2_with fail
  refine HG.out.mono ?_
  rintro e w3 ⟨rfl, hb3⟩
  have hB3 := hB2.trans (hb3.mono hB2.size)
  have hT3 := (hb3.block w.heap.size hs2).trans hT2
  have hs3 := Nat.lt_of_lt_of_le hs2 hb3.size
  have hL3 := hL.below hB3
  have hCA3 := Kd.C_below HCA.out hb3
  have hCB3 := Kd.C_below HCB2.out hb3
  clear HG HCA HCB2 hT hT2 hs1 hs2 hb2 hb3 hB2 hw1 hbx
  cases b with
  | true =>
    go_wp2_with fail
    refine (wakes_calls _ hL3).mono ?_
    rintro e w4 ⟨rfl, hb4⟩
    go_wp2
    go_ret
    exact ⟨rfl, hB3.trans (hb4.mono hB3.size)⟩
  | false =>
    obtain ⟨⟨hs1, hn1⟩, hbl, hsn⟩ := sizes_of hd bd (HGR.out rfl)
    obtain ⟨h, hh, HH⟩ := both_list w3 hL3 hd hnumH hs1 hn1
    obtain ⟨ts, hts, HB⟩ := texts_of w3 hL3 bd hnumB hsn
    have hcl := clS_len h ts hh hts
    have HTS := Lib.hid hts
    have HBB := Lib.hid HB
    have HHH := Lib.hid HH
    have HCB := Lib.hid hCB3
    have hV3 : TermV w3 hd (.agg #[.int .u8 hd.f0, .string hd.f1, .int .i64 hd.f2, .slice A hd.f3.length c]) := ⟨A, c, rfl, hcA, hCA3⟩
    have HV := Lib.hid hV3
    have HG1 := Lib.hid (HH.good w3 _ (Below.refl _ _) hV3)
    clear HGR hs1 hn1 hsn hts HB HH hV3 hCA3 hCB3
    have b0 := Lib.cell_of_heap hT3 0
    have b1 := Lib.cell_of_heap hT3 1
    have b2 := Lib.cell_of_heap hT3 2
    have b3 := Lib.cell_of_heap hT3 3
    go_wp2_with fail
    refine HG1.out.mono ?_
    rintro e w4 ⟨rfl, hb4⟩
    have hT4 := (hb4.block w.heap.size hs3).trans hT3
    have hs4 := Nat.lt_of_lt_of_le hs3 hb4.size
    clear HG1 b0 b1 b2 b3 hT3
    go_wp2
    go_loopw [3, 4] (fun v3 v4 wr => ∃ i : Nat, v4 = .int .i64 i ∧ i ≤ bd.length ∧ v3 = .string ⟨(clS h ts i).toArray⟩ ∧ Below w4.heap.size w4 wr) (fun _ v4 _ => bd.length - (intOf v4).toNat)
    case atStart => exact ⟨0, rfl, Nat.zero_le _, rfl, Below.refl _ _⟩
    case round =>
      obtain ⟨i, rfl, hi, rfl, hbr⟩ := hrel
      have hBr : Below w3.heap.size w3 wr := hb4.trans (hbr.mono hb4.size)
      have hTr := (hbr.block w.heap.size hs4).trans hT4
      have c0 := Lib.cell_of_heap hTr 0
      have c1 := Lib.cell_of_heap hTr 1
      have c2 := Lib.cell_of_heap hTr 2
      have c3 := Lib.cell_of_heap hTr 3
      have c4 : wr.cell? ⟨w.heap.size, 4, none⟩ = some (.slice B bd.length d) := Lib.cell_of_heap hTr 4
      have c5 := Lib.cell_of_heap hTr 5
      have hPl := hcl i
      by_cases hlt : i < bd.length
      · have hdd : decide ((i : Int) < (bd.length : Int)) = true := by simp; omega
        obtain ⟨ad, A3, c3', rfl, e0, e1, e2, e3, hc3, hC3⟩ := at_T24 (Kd.C_below HCB.out hBr) i (by omega) (by omega)
        rw [rd_at bd i hlt] at e0 e1 e2 e3 hc3 hC3
        rw [Int.toNat_natCast] at e0 e1 e2 e3
        have hV : TermV wr bd[i] (.agg #[.int .u8 bd[i].f0, .string bd[i].f1, .int .i64 bd[i].f2, .slice A3 bd[i].f3.length c3']) := ⟨A3, c3', rfl, hc3, hC3⟩
        have hcall := (HBB.out i hlt).good _ _ hBr hV
        have HCALL := Lib.hid hcall
        have hti := HTS.out i
        have hPl2 : (clS h ts i).length ≤ 460000000 := by omega
        have hS := clS_succ h ts i
        obtain ⟨P, hP⟩ : ∃ P, clS h ts i = P := ⟨_, rfl⟩
        obtain ⟨t, htE⟩ : ∃ t, ts i = t := ⟨_, rfl⟩
        rw [hP] at hPl hPl2 hS ⊢
        rw [htE] at hti hS HCALL
        clear hcall hC3 hV
        by_cases i0 : i = 0
        · have z0 : ((i : Int) == 0) = true := by simp; omega
          rw [if_pos i0] at hS
          have HS := Lib.hid hS
          clear i0 hS hP htE
          go_wp2_with (go_at_call 16; refine HCALL.out.mono ?_; rintro e w5 ⟨rfl, hb5⟩)
          exact ⟨⟨i + 1, by simp, by omega, by rw [HS.out, ← List.append_assoc, ← app_list, ← app_list], hbr.trans (hb5.mono hbr.size)⟩, by simp [intOf]; omega⟩
        · have z0 : ((i : Int) == 0) = false := by simp; omega
          rw [if_neg i0] at hS
          have HS := Lib.hid hS
          clear i0 hS hP htE
          go_wp2_with (go_at_call 16; refine HCALL.out.mono ?_; rintro e w5 ⟨rfl, hb5⟩)
          exact ⟨⟨i + 1, by simp, by omega, by rw [HS.out, ← List.append_assoc, ← app_list, ← app_list], hbr.trans (hb5.mono hbr.size)⟩, by simp [intOf]; omega⟩
      · have hdd : decide ((i : Int) < (bd.length : Int)) = false := by simp; omega
        obtain rfl : i = bd.length := by omega
        have hCl := Clause_calls hd bd n A B c d wr h ts hbl (HV.out.below hBr) (Kd.C_below HCB.out hBr) hh (fun i => HTS.out i) (HHH.out.below hBr) (fun i hi => (HBB.out i hi).below hBr)
        rw [← app_list] at hCl
        obtain ⟨P, hP⟩ : ∃ P, clS h ts bd.length = P := ⟨_, rfl⟩
        rw [hP] at hPl hCl ⊢
        have HCL := Lib.hid hCl
        have HP := Lib.hid hP
        have HLL := Lib.hid (hL3.below hBr)
        have HBR := Lib.hid (hB3.trans (hBr.mono hB3.size))
        have hPl2 : P.length ≤ 460000000 := by omega
        clear hP hCl
        go_wp2_with (first | (go_at_call 22; refine HCL.out.mono ?_; rintro e w5 ⟨rfl, hb5⟩) | (go_at_call 14; refine (wakes_calls _ (HLL.out.below hb5)).mono ?_; rintro e w6 ⟨rfl, hb6⟩))
        go_ret
        exact ⟨rfl, HBR.out.trans ((hb5.trans (hb6.mono hb5.size)).mono HBR.out.size)⟩
end Go.Proofs.YthnjdfblappkfaaDoor
