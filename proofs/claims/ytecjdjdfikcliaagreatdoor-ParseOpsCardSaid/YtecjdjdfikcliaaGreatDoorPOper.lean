/-
  The reader's operator.
-/
import Derived.Test.YtecjdjdfikcliaaGreatDoorPRead2
import Derived.Deep.RegionHeld3
namespace Go.Proofs.YtecjdjdfikcliaaGreatDoor.Pr
open Go Go.Proofs.YtecjdjdfikcliaaGreatDoor
open Go.RowKit Go.Proofs.YtecjdjdfikcliaaGreatDoorW.PrintWords Go.Proofs.YtecjdjdfikcliaaGreatDoorW.PrintLast Go.Proofs.YtecjdjdfikcliaaGreatDoorW.PrintMore Go.Proofs.YtecjdjdfikcliaaGreatDoor.P

/-- The infix operator at a token. -/
def opAt (T : S62) : ByteArray × (Int × Int × Int) × Bool :=
  if (decide (T.f0 = 1) || (decide (T.f0 = 5) && decide (bl T.f1 = [44]))) = true then (match opM infL (bl T.f1) with | some o => (T.f1, o, true) | none => (T.f1, (0, 0, 0), false)) else (⟨#[]⟩, (0, 0, 0), false)

theorem results_tct {fn : Func} {t p u : Tmp} (h : fn.results = #[.tmp t, .cell p 48, .tmp u]) (tmps : Array Value) (w : World) (g : Nat) (cs : Array Value) (fr : Nat × Nat)
    (hp : tmps.getD p undef = .pointer (some ⟨g, 0, none⟩)) (hg : w.heap[g]? = some (.cells cs 48 fr)) (hi : (Tryz.prog.info? 48).map (·.size) = some cs.size) :
    (results fn tmps).run Tryz.prog w = .ok (.tuple #[tmps.getD t undef, .agg cs, tmps.getD u undef]) w := by
  have hp' : tmps[p]?.getD undef = .pointer (some ⟨g, 0, none⟩) := by simpa using hp
  simp [results, h, hp', asAddr, run_loadVar_row w g 48 48 cs fr _ hg Tryz.underlying48 rfl hi]

theorem setRow3 {W : World} {b : Nat} {a0 a1 a2 : Value} {t : TypeId} {f : Nat × Nat} (h : W.heap[b]? = some (.cells #[a0, a1, a2] t f)) (v0 v1 v2 : Value) :
    (((W.setCell ⟨b, 0, none⟩ v0).setCell ⟨b, 1, none⟩ v1).setCell ⟨b, 2, none⟩ v2).heap[b]? = some (.cells #[v0, v1, v2] t f) ∧
    ∀ k, k ≠ b → (((W.setCell ⟨b, 0, none⟩ v0).setCell ⟨b, 1, none⟩ v1).setCell ⟨b, 2, none⟩ v2).heap[k]? = W.heap[k]? := by
  refine ⟨?_, fun k hk => ?_⟩
  · exact heap_setCell_same (heap_setCell_same (heap_setCell_same h 0 v0) 1 v1) 2 v2
  · rw [Below.heap_setCell _ _ _ _ hk, Below.heap_setCell _ _ _ _ hk, Below.heap_setCell _ _ _ _ hk]

set_option maxHeartbeats 4000000 in
set_option maxRecDepth 100000 in
theorem operator_calls {W : World} {rb c i deep : Nat} {A : Option Addr} {toks : List S62} {ns : List ByteArray} {nv : Value} (h : Rd W rb A c toks i deep ns nv) (hP : LaidP W) :
    Calls Tryz.prog 35 #[.pointer (some ⟨rb, 0, none⟩)] W fun e w' => e = .returned (.tuple #[.string (opAt (toks[i]'h.lt)).1, opV (opAt (toks[i]'h.lt)).2.1, .bool (opAt (toks[i]'h.lt)).2.2]) ∧ Below W.heap.size W w' := by
  have hu49 := Tryz.underlying62
  have hu89 := Tryz.underlying48
  obtain ⟨W0, hW0⟩ : ∃ W0, W.alloc (.cells #[.int .i64 0, .int .i64 0, .int .i64 0] 48) = W0 := ⟨_, rfl⟩
  have hb0 : Below W.heap.size W W0 := by rw [← hW0]; exact (Below.refl _ W).alloc (Nat.le_refl _) _
  have hO0 : W0.heap[W.heap.size]? = some (.cells #[.int .i64 0, .int .i64 0, .int .i64 0] 48 (0, 0)) := by rw [← hW0]; exact (MapKept.heap_alloc W _).1
  have hl0 : W.heap.size < W0.heap.size := by rw [← hW0, World.size_alloc]; exact Nat.lt_succ_self _
  have h0 := h.below hb0
  obtain ⟨ad, rfl, c0, c1, c2, c3, hc⟩ := h0.cells
  obtain ⟨t0, t1, t2, t3, t4⟩ := hc i h.lt
  have hlt := h.lt
  have hfew := h.few
  have hbT : Below W0.heap.size W0 (W0.alloc (.cells #[.int .u8 (toks[i]'h.lt).f0, .string (toks[i]'h.lt).f1, .int .i64 (toks[i]'h.lt).f2, .int .i64 (toks[i]'h.lt).f3, .bool (toks[i]'h.lt).f4] 62)).drew := ((Below.refl _ W0).alloc (Nat.le_refl _) _).drew
  have hcomma := is_calls ⟨#[44]⟩ (h0.below hbT)
  obtain ⟨T, hT⟩ : ∃ T, toks[i]'h.lt = T := ⟨_, rfl⟩
  rw [hT] at t0 t1 t2 t3 t4 hcomma hbT ⊢
  have hTT : (W0.alloc (.cells #[.int .u8 T.f0, .string T.f1, .int .i64 T.f2, .int .i64 T.f3, .bool T.f4] 62)).drew.heap[W0.heap.size]? = some (.cells #[.int .u8 T.f0, .string T.f1, .int .i64 T.f2, .int .i64 T.f3, .bool T.f4] 62 (0, 0)) := (MapKept.heap_alloc W0 _).1
  have hlT : W0.heap.size < (W0.alloc (.cells #[.int .u8 T.f0, .string T.f1, .int .i64 T.f2, .int .i64 T.f3, .bool T.f4] 62)).drew.heap.size := (Array.getElem?_eq_some_iff.1 hTT).1
  obtain ⟨WT, hWT⟩ : ∃ WT, (W0.alloc (.cells #[.int .u8 T.f0, .string T.f1, .int .i64 T.f2, .int .i64 T.f3, .bool T.f4] 62)).drew = WT := ⟨_, rfl⟩
  rw [hWT] at hTT hbT hcomma hlT
  have hPT := (hP.below hb0).below hbT
  have HWT := Lib.hid hWT
  have hO := (hbT.block W.heap.size hl0).trans hO0
  obtain ⟨q, hq⟩ : ∃ q, (decide (T.f0 = 5) && (T.f1.toList == (⟨#[44]⟩ : ByteArray).toList)) = q := ⟨_, rfl⟩
  have hq2 : (decide (T.f0 = 5) && decide (bl T.f1 = [44])) = q := by rw [← hq, show (⟨#[44]⟩ : ByteArray).toList = [44] from by rw [ByteArray.toList_eq], teqP]
  rw [hq] at hcomma
  obtain ⟨R, hR⟩ : ∃ R, opAt T = R := ⟨_, rfl⟩
  unfold opAt at hR
  rw [show opAt T = R from hR]
  rw [hq2] at hR
  have HC := Lib.hid hcomma
  have HTT := Lib.hid hTT
  have HBT := Lib.hid hbT
  clear hcomma hTT hbT hc hT hWT hq hq2 hP
  have HS : Hid (∀ W', Below W0.heap.size W0 W' → W'.cell? ⟨rb, 0, none⟩ = some (.slice (some ad) toks.length c) ∧ W'.cell? ⟨rb, 1, none⟩ = some (.int .i64 i) ∧ W'.cell? (ad.add (i * 5)) = some (.int .u8 T.f0) ∧ W'.cell? ⟨(ad.add (i * 5)).block, (ad.add (i * 5)).off + 1, none⟩ = some (.string T.f1) ∧
      W'.cell? ⟨(ad.add (i * 5)).block, (ad.add (i * 5)).off + 2, none⟩ = some (.int .i64 T.f2) ∧ W'.cell? ⟨(ad.add (i * 5)).block, (ad.add (i * 5)).off + 3, none⟩ = some (.int .i64 T.f3) ∧ W'.cell? ⟨(ad.add (i * 5)).block, (ad.add (i * 5)).off + 4, none⟩ = some (.bool T.f4)) :=
    fun W' hW => ⟨(hW.cell (World.block_lt_of_cell? W0 _ c0)).trans c0, (hW.cell (World.block_lt_of_cell? W0 _ c1)).trans c1, (hW.cell (World.block_lt_of_cell? W0 _ t0)).trans t0, (hW.cell (World.block_lt_of_cell? W0 _ t1)).trans t1, (hW.cell (World.block_lt_of_cell? W0 _ t2)).trans t2, (hW.cell (World.block_lt_of_cell? W0 _ t3)).trans t3, (hW.cell (World.block_lt_of_cell? W0 _ t4)).trans t4⟩
  have hD0 := HS.out _ ((Below.refl _ W0).drew)
  have hA0 := fun o => HS.out _ (((Below.refl _ W0).drew).alloc (Nat.le_refl _) o)
  clear c2 c3
  by_cases k1 : T.f0 = 1
  · have e1 : (T.f0 != 1) = false := by simp [k1]
    have d1 : decide (T.f0 = 1) = true := decide_eq_true k1
    rw [d1, Bool.true_or, if_pos rfl] at hR
    obtain ⟨o, ho⟩ : ∃ o, opM infL (bl T.f1) = o := ⟨_, rfl⟩
    rw [ho] at hR
    have HOP := Lib.hid ho
    clear k1 d1 ho
    cases o with
    | none =>
      subst hR
      go_enter Tryz.func35, Tryz.ntmps35
      go_wp2_with fail
      go_region_held (fun W' => W'.cell? ⟨rb, 0, none⟩ = some (.slice (some ad) toks.length c) ∧ W'.cell? ⟨rb, 1, none⟩ = some (.int .i64 i) ∧ W'.cell? (ad.add (i * 5)) = some (.int .u8 T.f0) ∧ W'.cell? ⟨(ad.add (i * 5)).block, (ad.add (i * 5)).off + 1, none⟩ = some (.string T.f1) ∧
          W'.cell? ⟨(ad.add (i * 5)).block, (ad.add (i * 5)).off + 2, none⟩ = some (.int .i64 T.f2) ∧ W'.cell? ⟨(ad.add (i * 5)).block, (ad.add (i * 5)).off + 3, none⟩ = some (.int .i64 T.f3) ∧ W'.cell? ⟨(ad.add (i * 5)).block, (ad.add (i * 5)).off + 4, none⟩ = some (.bool T.f4))
        (first | exact hD0 | exact hA0 _)
        (fail)
      rw [HWT.out]
      have x0 := Lib.cell_of_heap HTT.out 0
      have x1 := Lib.cell_of_heap HTT.out 1
      clear t0 t1 t2 t3 t4 c0 c1 hD0 hA0
      have HX : Hid (∀ W', Below WT.heap.size WT W' → W'.cell? ⟨W0.heap.size, 1, none⟩ = some (.string T.f1)) := fun W' hW => (hW.cell (World.block_lt_of_cell? WT _ x1)).trans x1
      have hPX := hPT
      have hdW := Lib.hid ((Below.refl WT.heap.size WT).drew)
      have haW := Lib.hid (((Below.refl WT.heap.size WT).drew).alloc (Nat.le_refl _) (.cells #[.int .i64 0, .int .i64 0, .int .i64 0] 48))
      have hzW := Lib.hid (MapKept.heap_alloc WT.drew (.cells #[.int .i64 0, .int .i64 0, .int .i64 0] 48)).1
      go_wp2_with fail
      go_region_held (fun W' => W'.cell? ⟨W0.heap.size, 1, none⟩ = some (.string T.f1))
        (first | exact HX.out _ hdW.out | exact HX.out _ haW.out | exact HX.out _ hbi | exact HX.out _ (hbi.alloc hbi.size _) | exact HX.out _ (((hbi.setCell (Nat.le_refl _) _).setCell (Nat.le_refl _) _).setCell (Nat.le_refl _) _))
        (first
          | (go_at_call 18; refine (infixes_calls _ (hPX.below hdW.out)).mono ?_; rintro e wi ⟨rfl, hmi, hbi'⟩; have hbi : Below WT.heap.size WT wi := hdW.out.trans hbi'; have hmi : wi.heap[WT.heap.size]? = some (.map (opEs infL 25) 25) := hmi; have hlk := run_lookOp infL infN hmi T.f1; rw [HOP.out] at hlk
             have hlk2 := fun o : Obj => run_lookOp infL infN ((Below.heap_alloc wi o _ (Array.getElem?_eq_some_iff.1 hmi).1).trans hmi) T.f1
             rw [HOP.out] at hlk2)
          | (go_at_call 18; refine (infixes_calls _ (hPX.below haW.out)).mono ?_; rintro e wi ⟨rfl, hmi, hbi'⟩; have hbi : Below WT.heap.size WT wi := haW.out.trans (hbi'.mono haW.out.size); have hmi : wi.heap[WT.heap.size + 1]? = some (.map (opEs infL 25) 25) := by { rw [World.size_alloc] at hmi; exact hmi }; have hlk := run_lookOp infL infN hmi T.f1; rw [HOP.out] at hlk
             have hzi := (hbi'.block WT.heap.size (Array.getElem?_eq_some_iff.1 hzW.out).1).trans hzW.out
             have z0 := Lib.cell_of_heap hzi 0; have z1 := Lib.cell_of_heap hzi 1; have z2 := Lib.cell_of_heap hzi 2
             have y0 := Lib.frozen_of_heap hzi 0; have y1 := Lib.frozen_of_heap hzi 1; have y2 := Lib.frozen_of_heap hzi 2))
      all_goals
        first
          | (have hb6 := hbi.alloc hbi.size (.cells #[.int .i64 0, .int .i64 0, .int .i64 0] 48)
             have h6 := (MapKept.heap_alloc wi (.cells #[.int .i64 0, .int .i64 0, .int .i64 0] 48)).1
             generalize wi.alloc (.cells #[.int .i64 0, .int .i64 0, .int .i64 0] 48) = Wc at hb6 h6 ⊢
             have hOc := (hb6.block W.heap.size (Nat.lt_of_lt_of_le hl0 HBT.out.size)).trans hO
             have hxc := (hb6.block W0.heap.size hlT).trans HTT.out
             have x1' := Lib.cell_of_heap hxc 1
             have u0 := Lib.cell_of_heap h6 0
             have u1 := Lib.cell_of_heap h6 1
             have u2 := Lib.cell_of_heap h6 2
             have v0 := Lib.cell_of_heap hOc 0
             have v1 := Lib.cell_of_heap hOc 1
             have v2 := Lib.cell_of_heap hOc 2
             have y0' := Lib.frozen_of_heap hOc 0
             have y1' := Lib.frozen_of_heap hOc 1
             have y2' := Lib.frozen_of_heap hOc 2
             go_wp2_with fail
             go_region
             go_wp2
             have hrow := setRow3 (W := Wc) hOc (.int .i64 0) (.int .i64 0) (.int .i64 0)
             refine bodyPost_ret (results_tct rfl _ _ W.heap.size _ (0, 0) rfl hrow.1 (by kernel_rfl)) rfl ?_
             exact ⟨rfl, (((((hb0.trans (HBT.out.mono hb0.size)).trans (hb6.mono (Nat.le_trans hb0.size HBT.out.size))).setCell (Nat.le_refl _) _).setCell (Nat.le_refl _) _).setCell (Nat.le_refl _) _).drew⟩)
          | (have hb6 := ((hbi.setCell (p := ⟨WT.heap.size, 0, none⟩) (Nat.le_refl _) (.int .i64 0)).setCell (p := ⟨WT.heap.size, 1, none⟩) (Nat.le_refl _) (.int .i64 0)).setCell (p := ⟨WT.heap.size, 2, none⟩) (Nat.le_refl _) (.int .i64 0)
             have h6 := (setRow3 hzi (.int .i64 0) (.int .i64 0) (.int .i64 0)).1
             generalize ((wi.setCell ⟨WT.heap.size, 0, none⟩ (.int .i64 0)).setCell ⟨WT.heap.size, 1, none⟩ (.int .i64 0)).setCell ⟨WT.heap.size, 2, none⟩ (.int .i64 0) = Wc at hb6 h6 ⊢
             have hOc := (hb6.block W.heap.size (Nat.lt_of_lt_of_le hl0 HBT.out.size)).trans hO
             have hxc := (hb6.block W0.heap.size hlT).trans HTT.out
             have x1' := Lib.cell_of_heap hxc 1
             have u0 := Lib.cell_of_heap h6 0
             have u1 := Lib.cell_of_heap h6 1
             have u2 := Lib.cell_of_heap h6 2
             have v0 := Lib.cell_of_heap hOc 0
             have v1 := Lib.cell_of_heap hOc 1
             have v2 := Lib.cell_of_heap hOc 2
             have y0' := Lib.frozen_of_heap hOc 0
             have y1' := Lib.frozen_of_heap hOc 1
             have y2' := Lib.frozen_of_heap hOc 2
             go_wp2_with fail
             go_region
             go_wp2
             have hrow := setRow3 (W := Wc) hOc (.int .i64 0) (.int .i64 0) (.int .i64 0)
             refine bodyPost_ret (results_tct rfl _ _ W.heap.size _ (0, 0) rfl hrow.1 (by kernel_rfl)) rfl ?_
             exact ⟨rfl, (((((hb0.trans (HBT.out.mono hb0.size)).trans (hb6.mono (Nat.le_trans hb0.size HBT.out.size))).setCell (Nat.le_refl _) _).setCell (Nat.le_refl _) _).setCell (Nat.le_refl _) _).drew⟩)
    | some o =>
      obtain ⟨o1, o2, o3⟩ := o
      subst hR
      go_enter Tryz.func35, Tryz.ntmps35
      go_wp2_with fail
      go_region_held (fun W' => W'.cell? ⟨rb, 0, none⟩ = some (.slice (some ad) toks.length c) ∧ W'.cell? ⟨rb, 1, none⟩ = some (.int .i64 i) ∧ W'.cell? (ad.add (i * 5)) = some (.int .u8 T.f0) ∧ W'.cell? ⟨(ad.add (i * 5)).block, (ad.add (i * 5)).off + 1, none⟩ = some (.string T.f1) ∧
          W'.cell? ⟨(ad.add (i * 5)).block, (ad.add (i * 5)).off + 2, none⟩ = some (.int .i64 T.f2) ∧ W'.cell? ⟨(ad.add (i * 5)).block, (ad.add (i * 5)).off + 3, none⟩ = some (.int .i64 T.f3) ∧ W'.cell? ⟨(ad.add (i * 5)).block, (ad.add (i * 5)).off + 4, none⟩ = some (.bool T.f4))
        (first | exact hD0 | exact hA0 _)
        (fail)
      rw [HWT.out]
      have x0 := Lib.cell_of_heap HTT.out 0
      have x1 := Lib.cell_of_heap HTT.out 1
      clear t0 t1 t2 t3 t4 c0 c1 hD0 hA0
      have HX : Hid (∀ W', Below WT.heap.size WT W' → W'.cell? ⟨W0.heap.size, 1, none⟩ = some (.string T.f1)) := fun W' hW => (hW.cell (World.block_lt_of_cell? WT _ x1)).trans x1
      have hPX := hPT
      have hdW := Lib.hid ((Below.refl WT.heap.size WT).drew)
      have haW := Lib.hid (((Below.refl WT.heap.size WT).drew).alloc (Nat.le_refl _) (.cells #[.int .i64 0, .int .i64 0, .int .i64 0] 48))
      have hzW := Lib.hid (MapKept.heap_alloc WT.drew (.cells #[.int .i64 0, .int .i64 0, .int .i64 0] 48)).1
      go_wp2_with fail
      go_region_held (fun W' => W'.cell? ⟨W0.heap.size, 1, none⟩ = some (.string T.f1))
        (first | exact HX.out _ hdW.out | exact HX.out _ haW.out | exact HX.out _ hbi | exact HX.out _ (hbi.alloc hbi.size _) | exact HX.out _ (((hbi.setCell (Nat.le_refl _) _).setCell (Nat.le_refl _) _).setCell (Nat.le_refl _) _))
        (first
          | (go_at_call 18; refine (infixes_calls _ (hPX.below hdW.out)).mono ?_; rintro e wi ⟨rfl, hmi, hbi'⟩; have hbi : Below WT.heap.size WT wi := hdW.out.trans hbi'; have hmi : wi.heap[WT.heap.size]? = some (.map (opEs infL 25) 25) := hmi; have hlk := run_lookOp infL infN hmi T.f1; rw [HOP.out] at hlk
             have hlk2 := fun o : Obj => run_lookOp infL infN ((Below.heap_alloc wi o _ (Array.getElem?_eq_some_iff.1 hmi).1).trans hmi) T.f1
             rw [HOP.out] at hlk2)
          | (go_at_call 18; refine (infixes_calls _ (hPX.below haW.out)).mono ?_; rintro e wi ⟨rfl, hmi, hbi'⟩; have hbi : Below WT.heap.size WT wi := haW.out.trans (hbi'.mono haW.out.size); have hmi : wi.heap[WT.heap.size + 1]? = some (.map (opEs infL 25) 25) := by { rw [World.size_alloc] at hmi; exact hmi }; have hlk := run_lookOp infL infN hmi T.f1; rw [HOP.out] at hlk
             have hzi := (hbi'.block WT.heap.size (Array.getElem?_eq_some_iff.1 hzW.out).1).trans hzW.out
             have z0 := Lib.cell_of_heap hzi 0; have z1 := Lib.cell_of_heap hzi 1; have z2 := Lib.cell_of_heap hzi 2
             have y0 := Lib.frozen_of_heap hzi 0; have y1 := Lib.frozen_of_heap hzi 1; have y2 := Lib.frozen_of_heap hzi 2))
      all_goals
        first
          | (have hb6 := hbi.alloc hbi.size (.cells #[.int .i64 o1, .int .i64 o2, .int .i64 o3] 48)
             have h6 := (MapKept.heap_alloc wi (.cells #[.int .i64 o1, .int .i64 o2, .int .i64 o3] 48)).1
             generalize wi.alloc (.cells #[.int .i64 o1, .int .i64 o2, .int .i64 o3] 48) = Wc at hb6 h6 ⊢
             have hOc := (hb6.block W.heap.size (Nat.lt_of_lt_of_le hl0 HBT.out.size)).trans hO
             have hxc := (hb6.block W0.heap.size hlT).trans HTT.out
             have x1' := Lib.cell_of_heap hxc 1
             have u0 := Lib.cell_of_heap h6 0
             have u1 := Lib.cell_of_heap h6 1
             have u2 := Lib.cell_of_heap h6 2
             have v0 := Lib.cell_of_heap hOc 0
             have v1 := Lib.cell_of_heap hOc 1
             have v2 := Lib.cell_of_heap hOc 2
             have y0' := Lib.frozen_of_heap hOc 0
             have y1' := Lib.frozen_of_heap hOc 1
             have y2' := Lib.frozen_of_heap hOc 2
             go_wp2_with fail
             go_region
             go_wp2
             have hrow := setRow3 (W := Wc) hOc (.int .i64 o1) (.int .i64 o2) (.int .i64 o3)
             refine bodyPost_ret (results_tct rfl _ _ W.heap.size _ (0, 0) rfl hrow.1 (by kernel_rfl)) rfl ?_
             exact ⟨rfl, (((((hb0.trans (HBT.out.mono hb0.size)).trans (hb6.mono (Nat.le_trans hb0.size HBT.out.size))).setCell (Nat.le_refl _) _).setCell (Nat.le_refl _) _).setCell (Nat.le_refl _) _).drew⟩)
          | (have hb6 := ((hbi.setCell (p := ⟨WT.heap.size, 0, none⟩) (Nat.le_refl _) (.int .i64 o1)).setCell (p := ⟨WT.heap.size, 1, none⟩) (Nat.le_refl _) (.int .i64 o2)).setCell (p := ⟨WT.heap.size, 2, none⟩) (Nat.le_refl _) (.int .i64 o3)
             have h6 := (setRow3 hzi (.int .i64 o1) (.int .i64 o2) (.int .i64 o3)).1
             generalize ((wi.setCell ⟨WT.heap.size, 0, none⟩ (.int .i64 o1)).setCell ⟨WT.heap.size, 1, none⟩ (.int .i64 o2)).setCell ⟨WT.heap.size, 2, none⟩ (.int .i64 o3) = Wc at hb6 h6 ⊢
             have hOc := (hb6.block W.heap.size (Nat.lt_of_lt_of_le hl0 HBT.out.size)).trans hO
             have hxc := (hb6.block W0.heap.size hlT).trans HTT.out
             have x1' := Lib.cell_of_heap hxc 1
             have u0 := Lib.cell_of_heap h6 0
             have u1 := Lib.cell_of_heap h6 1
             have u2 := Lib.cell_of_heap h6 2
             have v0 := Lib.cell_of_heap hOc 0
             have v1 := Lib.cell_of_heap hOc 1
             have v2 := Lib.cell_of_heap hOc 2
             have y0' := Lib.frozen_of_heap hOc 0
             have y1' := Lib.frozen_of_heap hOc 1
             have y2' := Lib.frozen_of_heap hOc 2
             go_wp2_with fail
             go_region
             go_wp2
             have hrow := setRow3 (W := Wc) hOc (.int .i64 o1) (.int .i64 o2) (.int .i64 o3)
             refine bodyPost_ret (results_tct rfl _ _ W.heap.size _ (0, 0) rfl hrow.1 (by kernel_rfl)) rfl ?_
             exact ⟨rfl, (((((hb0.trans (HBT.out.mono hb0.size)).trans (hb6.mono (Nat.le_trans hb0.size HBT.out.size))).setCell (Nat.le_refl _) _).setCell (Nat.le_refl _) _).setCell (Nat.le_refl _) _).drew⟩)
  · have e1 : (T.f0 != 1) = true := by simp [k1]
    have d1 : decide (T.f0 = 1) = false := decide_eq_false k1
    rw [d1, Bool.false_or] at hR
    clear k1 d1
    cases q with
    | false =>
      rw [if_neg (by decide)] at hR
      subst hR
      go_enter Tryz.func35, Tryz.ntmps35
      go_wp2_with fail
      go_region_held (fun W' => W'.cell? ⟨rb, 0, none⟩ = some (.slice (some ad) toks.length c) ∧ W'.cell? ⟨rb, 1, none⟩ = some (.int .i64 i) ∧ W'.cell? (ad.add (i * 5)) = some (.int .u8 T.f0) ∧ W'.cell? ⟨(ad.add (i * 5)).block, (ad.add (i * 5)).off + 1, none⟩ = some (.string T.f1) ∧
          W'.cell? ⟨(ad.add (i * 5)).block, (ad.add (i * 5)).off + 2, none⟩ = some (.int .i64 T.f2) ∧ W'.cell? ⟨(ad.add (i * 5)).block, (ad.add (i * 5)).off + 3, none⟩ = some (.int .i64 T.f3) ∧ W'.cell? ⟨(ad.add (i * 5)).block, (ad.add (i * 5)).off + 4, none⟩ = some (.bool T.f4))
        (first | exact hD0 | exact hA0 _)
        (fail)
      rw [HWT.out]
      have x0 := Lib.cell_of_heap HTT.out 0
      have x1 := Lib.cell_of_heap HTT.out 1
      clear t0 t1 t2 t3 t4 c0 c1 hD0 hA0
      go_wp2_with fail
      refine HC.out.mono ?_
      rintro e w1 ⟨rfl, hb1⟩
      have hO1 := (hb1.block W.heap.size (Nat.lt_of_lt_of_le hl0 HBT.out.size)).trans hO
      have v0 := Lib.cell_of_heap hO1 0
      have v1 := Lib.cell_of_heap hO1 1
      have v2 := Lib.cell_of_heap hO1 2
      have y0' := Lib.frozen_of_heap hO1 0
      have y1' := Lib.frozen_of_heap hO1 1
      have y2' := Lib.frozen_of_heap hO1 2
      go_wp2
      have hrow := setRow3 (W := w1) hO1 (.int .i64 0) (.int .i64 0) (.int .i64 0)
      refine bodyPost_ret (results_tct rfl _ _ W.heap.size _ (0, 0) rfl hrow.1 (by kernel_rfl)) rfl ?_
      exact ⟨rfl, (((hb0.trans (HBT.out.mono hb0.size)).trans (hb1.mono (Nat.le_trans hb0.size HBT.out.size))).setCell (Nat.le_refl _) _).setCell (Nat.le_refl _) _ |>.setCell (Nat.le_refl _) _⟩
    | true =>
      rw [if_pos rfl] at hR
      obtain ⟨o, ho⟩ : ∃ o, opM infL (bl T.f1) = o := ⟨_, rfl⟩
      rw [ho] at hR
      have HOP := Lib.hid ho
      clear ho
      cases o with
      | none =>
        subst hR
        go_enter Tryz.func35, Tryz.ntmps35
        go_wp2_with fail
        go_region_held (fun W' => W'.cell? ⟨rb, 0, none⟩ = some (.slice (some ad) toks.length c) ∧ W'.cell? ⟨rb, 1, none⟩ = some (.int .i64 i) ∧ W'.cell? (ad.add (i * 5)) = some (.int .u8 T.f0) ∧ W'.cell? ⟨(ad.add (i * 5)).block, (ad.add (i * 5)).off + 1, none⟩ = some (.string T.f1) ∧
            W'.cell? ⟨(ad.add (i * 5)).block, (ad.add (i * 5)).off + 2, none⟩ = some (.int .i64 T.f2) ∧ W'.cell? ⟨(ad.add (i * 5)).block, (ad.add (i * 5)).off + 3, none⟩ = some (.int .i64 T.f3) ∧ W'.cell? ⟨(ad.add (i * 5)).block, (ad.add (i * 5)).off + 4, none⟩ = some (.bool T.f4))
          (first | exact hD0 | exact hA0 _)
          (fail)
        rw [HWT.out]
        have x0 := Lib.cell_of_heap HTT.out 0
        have x1 := Lib.cell_of_heap HTT.out 1
        clear t0 t1 t2 t3 t4 c0 c1 hD0 hA0
        go_wp2_with fail
        refine HC.out.mono ?_
        rintro e w1 ⟨rfl, hb1⟩
        have hOX1 := (hb1.block W.heap.size (Nat.lt_of_lt_of_le hl0 HBT.out.size)).trans hO
        have HTX1 := Lib.hid ((hb1.block W0.heap.size hlT).trans HTT.out)
        have HBX1 := Lib.hid (HBT.out.trans (hb1.mono HBT.out.size))
        have hlX1 := Nat.lt_of_lt_of_le hlT hb1.size
        have hPX1 := hPT.below hb1
        have xx1 : w1.cell? ⟨W0.heap.size, 1, none⟩ = some (.string T.f1) := Lib.cell_of_heap HTX1.out 1
        have HX : Hid (∀ W', Below w1.heap.size w1 W' → W'.cell? ⟨W0.heap.size, 1, none⟩ = some (.string T.f1)) := fun W' hW => (hW.cell (World.block_lt_of_cell? w1 _ xx1)).trans xx1
        have hPX := hPX1
        have hdW := Lib.hid ((Below.refl w1.heap.size w1).drew)
        have haW := Lib.hid (((Below.refl w1.heap.size w1).drew).alloc (Nat.le_refl _) (.cells #[.int .i64 0, .int .i64 0, .int .i64 0] 48))
        have hzW := Lib.hid (MapKept.heap_alloc w1.drew (.cells #[.int .i64 0, .int .i64 0, .int .i64 0] 48)).1
        go_wp2_with fail
        go_region_held (fun W' => W'.cell? ⟨W0.heap.size, 1, none⟩ = some (.string T.f1))
          (first | exact HX.out _ hdW.out | exact HX.out _ haW.out | exact HX.out _ hbi | exact HX.out _ (hbi.alloc hbi.size _) | exact HX.out _ (((hbi.setCell (Nat.le_refl _) _).setCell (Nat.le_refl _) _).setCell (Nat.le_refl _) _))
          (first
            | (go_at_call 18; refine (infixes_calls _ (hPX.below hdW.out)).mono ?_; rintro e wi ⟨rfl, hmi, hbi'⟩; have hbi : Below w1.heap.size w1 wi := hdW.out.trans hbi'; have hmi : wi.heap[w1.heap.size]? = some (.map (opEs infL 25) 25) := hmi; have hlk := run_lookOp infL infN hmi T.f1; rw [HOP.out] at hlk
               have hlk2 := fun o : Obj => run_lookOp infL infN ((Below.heap_alloc wi o _ (Array.getElem?_eq_some_iff.1 hmi).1).trans hmi) T.f1
               rw [HOP.out] at hlk2)
            | (go_at_call 18; refine (infixes_calls _ (hPX.below haW.out)).mono ?_; rintro e wi ⟨rfl, hmi, hbi'⟩; have hbi : Below w1.heap.size w1 wi := haW.out.trans (hbi'.mono haW.out.size); have hmi : wi.heap[w1.heap.size + 1]? = some (.map (opEs infL 25) 25) := by { rw [World.size_alloc] at hmi; exact hmi }; have hlk := run_lookOp infL infN hmi T.f1; rw [HOP.out] at hlk
               have hzi := (hbi'.block w1.heap.size (Array.getElem?_eq_some_iff.1 hzW.out).1).trans hzW.out
               have z0 := Lib.cell_of_heap hzi 0; have z1 := Lib.cell_of_heap hzi 1; have z2 := Lib.cell_of_heap hzi 2
               have y0 := Lib.frozen_of_heap hzi 0; have y1 := Lib.frozen_of_heap hzi 1; have y2 := Lib.frozen_of_heap hzi 2))
        all_goals
          first
            | (have hb6 := hbi.alloc hbi.size (.cells #[.int .i64 0, .int .i64 0, .int .i64 0] 48)
               have h6 := (MapKept.heap_alloc wi (.cells #[.int .i64 0, .int .i64 0, .int .i64 0] 48)).1
               generalize wi.alloc (.cells #[.int .i64 0, .int .i64 0, .int .i64 0] 48) = Wc at hb6 h6 ⊢
               have hOc := (hb6.block W.heap.size (Nat.lt_of_lt_of_le hl0 HBX1.out.size)).trans hOX1
               have hxc := (hb6.block W0.heap.size hlX1).trans HTX1.out
               have x1' := Lib.cell_of_heap hxc 1
               have u0 := Lib.cell_of_heap h6 0
               have u1 := Lib.cell_of_heap h6 1
               have u2 := Lib.cell_of_heap h6 2
               have v0 := Lib.cell_of_heap hOc 0
               have v1 := Lib.cell_of_heap hOc 1
               have v2 := Lib.cell_of_heap hOc 2
               have y0' := Lib.frozen_of_heap hOc 0
               have y1' := Lib.frozen_of_heap hOc 1
               have y2' := Lib.frozen_of_heap hOc 2
               go_wp2_with fail
               go_region
               go_wp2
               have hrow := setRow3 (W := Wc) hOc (.int .i64 0) (.int .i64 0) (.int .i64 0)
               refine bodyPost_ret (results_tct rfl _ _ W.heap.size _ (0, 0) rfl hrow.1 (by kernel_rfl)) rfl ?_
               exact ⟨rfl, (((((hb0.trans (HBX1.out.mono hb0.size)).trans (hb6.mono (Nat.le_trans hb0.size HBX1.out.size))).setCell (Nat.le_refl _) _).setCell (Nat.le_refl _) _).setCell (Nat.le_refl _) _).drew⟩)
            | (have hb6 := ((hbi.setCell (p := ⟨w1.heap.size, 0, none⟩) (Nat.le_refl _) (.int .i64 0)).setCell (p := ⟨w1.heap.size, 1, none⟩) (Nat.le_refl _) (.int .i64 0)).setCell (p := ⟨w1.heap.size, 2, none⟩) (Nat.le_refl _) (.int .i64 0)
               have h6 := (setRow3 hzi (.int .i64 0) (.int .i64 0) (.int .i64 0)).1
               generalize ((wi.setCell ⟨w1.heap.size, 0, none⟩ (.int .i64 0)).setCell ⟨w1.heap.size, 1, none⟩ (.int .i64 0)).setCell ⟨w1.heap.size, 2, none⟩ (.int .i64 0) = Wc at hb6 h6 ⊢
               have hOc := (hb6.block W.heap.size (Nat.lt_of_lt_of_le hl0 HBX1.out.size)).trans hOX1
               have hxc := (hb6.block W0.heap.size hlX1).trans HTX1.out
               have x1' := Lib.cell_of_heap hxc 1
               have u0 := Lib.cell_of_heap h6 0
               have u1 := Lib.cell_of_heap h6 1
               have u2 := Lib.cell_of_heap h6 2
               have v0 := Lib.cell_of_heap hOc 0
               have v1 := Lib.cell_of_heap hOc 1
               have v2 := Lib.cell_of_heap hOc 2
               have y0' := Lib.frozen_of_heap hOc 0
               have y1' := Lib.frozen_of_heap hOc 1
               have y2' := Lib.frozen_of_heap hOc 2
               go_wp2_with fail
               go_region
               go_wp2
               have hrow := setRow3 (W := Wc) hOc (.int .i64 0) (.int .i64 0) (.int .i64 0)
               refine bodyPost_ret (results_tct rfl _ _ W.heap.size _ (0, 0) rfl hrow.1 (by kernel_rfl)) rfl ?_
               exact ⟨rfl, (((((hb0.trans (HBX1.out.mono hb0.size)).trans (hb6.mono (Nat.le_trans hb0.size HBX1.out.size))).setCell (Nat.le_refl _) _).setCell (Nat.le_refl _) _).setCell (Nat.le_refl _) _).drew⟩)
      | some o =>
        obtain ⟨o1, o2, o3⟩ := o
        subst hR
        go_enter Tryz.func35, Tryz.ntmps35
        go_wp2_with fail
        go_region_held (fun W' => W'.cell? ⟨rb, 0, none⟩ = some (.slice (some ad) toks.length c) ∧ W'.cell? ⟨rb, 1, none⟩ = some (.int .i64 i) ∧ W'.cell? (ad.add (i * 5)) = some (.int .u8 T.f0) ∧ W'.cell? ⟨(ad.add (i * 5)).block, (ad.add (i * 5)).off + 1, none⟩ = some (.string T.f1) ∧
            W'.cell? ⟨(ad.add (i * 5)).block, (ad.add (i * 5)).off + 2, none⟩ = some (.int .i64 T.f2) ∧ W'.cell? ⟨(ad.add (i * 5)).block, (ad.add (i * 5)).off + 3, none⟩ = some (.int .i64 T.f3) ∧ W'.cell? ⟨(ad.add (i * 5)).block, (ad.add (i * 5)).off + 4, none⟩ = some (.bool T.f4))
          (first | exact hD0 | exact hA0 _)
          (fail)
        rw [HWT.out]
        have x0 := Lib.cell_of_heap HTT.out 0
        have x1 := Lib.cell_of_heap HTT.out 1
        clear t0 t1 t2 t3 t4 c0 c1 hD0 hA0
        go_wp2_with fail
        refine HC.out.mono ?_
        rintro e w1 ⟨rfl, hb1⟩
        have hOX1 := (hb1.block W.heap.size (Nat.lt_of_lt_of_le hl0 HBT.out.size)).trans hO
        have HTX1 := Lib.hid ((hb1.block W0.heap.size hlT).trans HTT.out)
        have HBX1 := Lib.hid (HBT.out.trans (hb1.mono HBT.out.size))
        have hlX1 := Nat.lt_of_lt_of_le hlT hb1.size
        have hPX1 := hPT.below hb1
        have xx1 : w1.cell? ⟨W0.heap.size, 1, none⟩ = some (.string T.f1) := Lib.cell_of_heap HTX1.out 1
        have HX : Hid (∀ W', Below w1.heap.size w1 W' → W'.cell? ⟨W0.heap.size, 1, none⟩ = some (.string T.f1)) := fun W' hW => (hW.cell (World.block_lt_of_cell? w1 _ xx1)).trans xx1
        have hPX := hPX1
        have hdW := Lib.hid ((Below.refl w1.heap.size w1).drew)
        have haW := Lib.hid (((Below.refl w1.heap.size w1).drew).alloc (Nat.le_refl _) (.cells #[.int .i64 0, .int .i64 0, .int .i64 0] 48))
        have hzW := Lib.hid (MapKept.heap_alloc w1.drew (.cells #[.int .i64 0, .int .i64 0, .int .i64 0] 48)).1
        go_wp2_with fail
        go_region_held (fun W' => W'.cell? ⟨W0.heap.size, 1, none⟩ = some (.string T.f1))
          (first | exact HX.out _ hdW.out | exact HX.out _ haW.out | exact HX.out _ hbi | exact HX.out _ (hbi.alloc hbi.size _) | exact HX.out _ (((hbi.setCell (Nat.le_refl _) _).setCell (Nat.le_refl _) _).setCell (Nat.le_refl _) _))
          (first
            | (go_at_call 18; refine (infixes_calls _ (hPX.below hdW.out)).mono ?_; rintro e wi ⟨rfl, hmi, hbi'⟩; have hbi : Below w1.heap.size w1 wi := hdW.out.trans hbi'; have hmi : wi.heap[w1.heap.size]? = some (.map (opEs infL 25) 25) := hmi; have hlk := run_lookOp infL infN hmi T.f1; rw [HOP.out] at hlk
               have hlk2 := fun o : Obj => run_lookOp infL infN ((Below.heap_alloc wi o _ (Array.getElem?_eq_some_iff.1 hmi).1).trans hmi) T.f1
               rw [HOP.out] at hlk2)
            | (go_at_call 18; refine (infixes_calls _ (hPX.below haW.out)).mono ?_; rintro e wi ⟨rfl, hmi, hbi'⟩; have hbi : Below w1.heap.size w1 wi := haW.out.trans (hbi'.mono haW.out.size); have hmi : wi.heap[w1.heap.size + 1]? = some (.map (opEs infL 25) 25) := by { rw [World.size_alloc] at hmi; exact hmi }; have hlk := run_lookOp infL infN hmi T.f1; rw [HOP.out] at hlk
               have hzi := (hbi'.block w1.heap.size (Array.getElem?_eq_some_iff.1 hzW.out).1).trans hzW.out
               have z0 := Lib.cell_of_heap hzi 0; have z1 := Lib.cell_of_heap hzi 1; have z2 := Lib.cell_of_heap hzi 2
               have y0 := Lib.frozen_of_heap hzi 0; have y1 := Lib.frozen_of_heap hzi 1; have y2 := Lib.frozen_of_heap hzi 2))
        all_goals
          first
            | (have hb6 := hbi.alloc hbi.size (.cells #[.int .i64 o1, .int .i64 o2, .int .i64 o3] 48)
               have h6 := (MapKept.heap_alloc wi (.cells #[.int .i64 o1, .int .i64 o2, .int .i64 o3] 48)).1
               generalize wi.alloc (.cells #[.int .i64 o1, .int .i64 o2, .int .i64 o3] 48) = Wc at hb6 h6 ⊢
               have hOc := (hb6.block W.heap.size (Nat.lt_of_lt_of_le hl0 HBX1.out.size)).trans hOX1
               have hxc := (hb6.block W0.heap.size hlX1).trans HTX1.out
               have x1' := Lib.cell_of_heap hxc 1
               have u0 := Lib.cell_of_heap h6 0
               have u1 := Lib.cell_of_heap h6 1
               have u2 := Lib.cell_of_heap h6 2
               have v0 := Lib.cell_of_heap hOc 0
               have v1 := Lib.cell_of_heap hOc 1
               have v2 := Lib.cell_of_heap hOc 2
               have y0' := Lib.frozen_of_heap hOc 0
               have y1' := Lib.frozen_of_heap hOc 1
               have y2' := Lib.frozen_of_heap hOc 2
               go_wp2_with fail
               go_region
               go_wp2
               have hrow := setRow3 (W := Wc) hOc (.int .i64 o1) (.int .i64 o2) (.int .i64 o3)
               refine bodyPost_ret (results_tct rfl _ _ W.heap.size _ (0, 0) rfl hrow.1 (by kernel_rfl)) rfl ?_
               exact ⟨rfl, (((((hb0.trans (HBX1.out.mono hb0.size)).trans (hb6.mono (Nat.le_trans hb0.size HBX1.out.size))).setCell (Nat.le_refl _) _).setCell (Nat.le_refl _) _).setCell (Nat.le_refl _) _).drew⟩)
            | (have hb6 := ((hbi.setCell (p := ⟨w1.heap.size, 0, none⟩) (Nat.le_refl _) (.int .i64 o1)).setCell (p := ⟨w1.heap.size, 1, none⟩) (Nat.le_refl _) (.int .i64 o2)).setCell (p := ⟨w1.heap.size, 2, none⟩) (Nat.le_refl _) (.int .i64 o3)
               have h6 := (setRow3 hzi (.int .i64 o1) (.int .i64 o2) (.int .i64 o3)).1
               generalize ((wi.setCell ⟨w1.heap.size, 0, none⟩ (.int .i64 o1)).setCell ⟨w1.heap.size, 1, none⟩ (.int .i64 o2)).setCell ⟨w1.heap.size, 2, none⟩ (.int .i64 o3) = Wc at hb6 h6 ⊢
               have hOc := (hb6.block W.heap.size (Nat.lt_of_lt_of_le hl0 HBX1.out.size)).trans hOX1
               have hxc := (hb6.block W0.heap.size hlX1).trans HTX1.out
               have x1' := Lib.cell_of_heap hxc 1
               have u0 := Lib.cell_of_heap h6 0
               have u1 := Lib.cell_of_heap h6 1
               have u2 := Lib.cell_of_heap h6 2
               have v0 := Lib.cell_of_heap hOc 0
               have v1 := Lib.cell_of_heap hOc 1
               have v2 := Lib.cell_of_heap hOc 2
               have y0' := Lib.frozen_of_heap hOc 0
               have y1' := Lib.frozen_of_heap hOc 1
               have y2' := Lib.frozen_of_heap hOc 2
               go_wp2_with fail
               go_region
               go_wp2
               have hrow := setRow3 (W := Wc) hOc (.int .i64 o1) (.int .i64 o2) (.int .i64 o3)
               refine bodyPost_ret (results_tct rfl _ _ W.heap.size _ (0, 0) rfl hrow.1 (by kernel_rfl)) rfl ?_
               exact ⟨rfl, (((((hb0.trans (HBX1.out.mono hb0.size)).trans (hb6.mono (Nat.le_trans hb0.size HBX1.out.size))).setCell (Nat.le_refl _) _).setCell (Nat.le_refl _) _).setCell (Nat.le_refl _) _).drew⟩)
end Go.Proofs.YtecjdjdfikcliaaGreatDoor.Pr
