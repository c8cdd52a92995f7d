/-
  The reader's primary: a structure in words.
-/
import Derived.Test.YtecjdjdfikcliaaGreatDoorMPart
namespace Go.Proofs.YtecjdjdfikcliaaGreatDoor.Pr
open Go Go.Proofs.YtecjdjdfikcliaaGreatDoor
open Go.RowKit Go.Proofs.YtecjdjdfikcliaaGreatDoorW.PrintWords Go.Proofs.YtecjdjdfikcliaaGreatDoorW.PrintLast Go.Proofs.YtecjdjdfikcliaaGreatDoorW.PrintMore Go.Proofs.YtecjdjdfikcliaaGreatDoor.P

set_option maxHeartbeats 8000000 in
set_option maxRecDepth 100000 in
theorem prim_open {w0 : World} {rb : Nat} {A : Option Addr} {c : Nat} {toks : List S62} (hrb : w0.heap.size ≤ rb) (hP0 : LaidP w0) {d i : Nat} {p : Int} {ns : List ByteArray} {W : World} {nv : Value}
    {k i1 : Nat} {l : List S36} {z : S36} {ns' : List ByteArray} (hT : ∀ j, j < k → TermOK w0 rb A c toks j) (h0 : (tk toks i).f0 = 1) (h4 : (tk toks i).f4 = true) (hpm : partM toks k (d + 1) (i + 2) ns = some (l, i1, ns')) (hsh : isT (tk toks i1) [41] = true) (hi1 : i1 + 1 < toks.length) (hbl : bltM (tk toks i).f1 l = some z) (hd64 : d + 1 ≤ 64) (hi2 : i + 2 < toks.length) (hbg : begM (tk toks i) = true) (h : Rd W rb A c toks i d ns nv) (hw : Below w0.heap.size w0 W) :
    Calls Tryz.prog 34 #[.pointer (some ⟨rb, 0, none⟩), .int .i64 p] W fun e w' => ∃ v nv', e = .returned (.tuple #[v, .int .i64 0]) ∧ Rd w' rb A c toks (i1 + 1) d ns' nv' ∧ Fr rb nv nv' W w' ∧ TermF w' (Ap W.heap.size rb nv') z v := by
  have hu24 := Tryz.underlying36
  have hu49 := Tryz.underlying62
  have hmf : ∀ (fn : Fn) (first cap : Array Value) (w : World), (Instr.makeFunc fn first cap).run Tryz.prog w = .ok (.func fn first cap) w := fun _ _ _ _ => rfl
  obtain ⟨W1, hW1⟩ : ∃ W1, W.alloc (.cells #[.pointer (some ⟨rb, 0, none⟩)] 58) = W1 := ⟨_, rfl⟩
  have hb1 : Below W.heap.size W W1 := by rw [← hW1]; exact (Below.refl _ W).alloc (Nat.le_refl _) _
  have hR1 : W1.heap[W.heap.size]? = some (.cells #[.pointer (some ⟨rb, 0, none⟩)] 58 (0, 0)) := by rw [← hW1]; exact (MapKept.heap_alloc W _).1
  have HZ1 : Hid (W1.heap.size = W.heap.size + 1) := by rw [← hW1]; exact World.size_alloc _ _
  obtain ⟨W2, hW2⟩ : ∃ W2, W1.alloc (.cells #[.int .u8 0, .string ⟨#[]⟩, .int .i64 0, .slice none 0 0] 36) = W2 := ⟨_, rfl⟩
  have hb12 : Below W1.heap.size W1 W2 := by rw [← hW2]; exact (Below.refl _ W1).alloc (Nat.le_refl _) _
  have hb2 : Below W.heap.size W W2 := hb1.trans (hb12.mono hb1.size)
  have hZ2 : W2.heap[W1.heap.size]? = some (.cells #[.int .u8 0, .string ⟨#[]⟩, .int .i64 0, .slice none 0 0] 36 (0, 0)) := by rw [← hW2]; exact (MapKept.heap_alloc W1 _).1
  have HZ2 : Hid (W2.heap.size = W1.heap.size + 1) := by rw [← hW2]; exact World.size_alloc _ _
  have hR2 := (hb12.block W.heap.size (by have := HZ1.out; omega)).trans hR1
  have h2 := h.below hb2
  obtain ⟨ad, rfl, c0, c1, c2, c3, hc⟩ := h2.cells
  obtain ⟨t0, t1, t2, t3, t4⟩ := hc i h.lt
  have hlt := h.lt
  have hfew := h.few
  have htk := tk_eq toks i h.lt
  have cb := Lib.cell_of_heap hR2 0
  obtain ⟨T, hTk⟩ : ∃ T, toks[i]'h.lt = T := ⟨_, rfl⟩
  rw [hTk] at t0 t1 t2 t3 t4 htk
  rw [htk] at hbg h0 h4 hbl
  rw [h4] at t4
  have HS : Hid (∀ W', Below W2.heap.size W2 W' → W'.cell? ⟨W.heap.size, 0, none⟩ = some (.pointer (some ⟨rb, 0, none⟩)) ∧ W'.cell? ⟨rb, 0, none⟩ = some (.slice (some ad) toks.length c) ∧ W'.cell? ⟨rb, 1, none⟩ = some (.int .i64 i) ∧ W'.cell? (ad.add (i * 5)) = some (.int .u8 T.f0) ∧ W'.cell? ⟨(ad.add (i * 5)).block, (ad.add (i * 5)).off + 1, none⟩ = some (.string T.f1) ∧
      W'.cell? ⟨(ad.add (i * 5)).block, (ad.add (i * 5)).off + 2, none⟩ = some (.int .i64 T.f2) ∧ W'.cell? ⟨(ad.add (i * 5)).block, (ad.add (i * 5)).off + 3, none⟩ = some (.int .i64 T.f3) ∧ W'.cell? ⟨(ad.add (i * 5)).block, (ad.add (i * 5)).off + 4, none⟩ = some (.bool true)) :=
    fun W' hW => ⟨(hW.cell (World.block_lt_of_cell? W2 _ cb)).trans cb, (hW.cell (World.block_lt_of_cell? W2 _ c0)).trans c0, (hW.cell (World.block_lt_of_cell? W2 _ c1)).trans c1, (hW.cell (World.block_lt_of_cell? W2 _ t0)).trans t0, (hW.cell (World.block_lt_of_cell? W2 _ t1)).trans t1, (hW.cell (World.block_lt_of_cell? W2 _ t2)).trans t2, (hW.cell (World.block_lt_of_cell? W2 _ t3)).trans t3, (hW.cell (World.block_lt_of_cell? W2 _ t4)).trans t4⟩
  have hD0 := HS.out _ ((Below.refl _ W2).drew)
  have hA0 := fun o => HS.out _ (((Below.refl _ W2).drew).alloc (Nat.le_refl _) o)
  have HH := Lib.hid h
  have HNX := Lib.hid hc
  have k1 : (T.f0 == 1) = true := by simp [h0]
  have k2 : (T.f0 == 2) = false := by simp [h0]
  have k3 : (T.f0 == 3) = false := by simp [h0]
  have k4 : (T.f0 == 4) = false := by simp [h0]
  have k5 : (T.f0 == 5) = false := by simp [h0]
  have HPM := Lib.hid hpm
  have HSH := Lib.hid hsh
  have HBL := Lib.hid hbl
  have HT := Lib.hid hT
  have H4 := Lib.hid h4
  clear h0 hpm hsh hbl hT
  clear hc h c2 c3 hTk htk
  go_enter_defers Tryz.func34, Tryz.ntmps34
  go_wp2_with fail
  have hA1 := fun o : Obj => HS.out _ ((Below.refl _ W2).alloc (Nat.le_refl _) o)
  have hN0 := HS.out _ (Below.refl _ W2)
  go_region
  obtain ⟨WT, hWT⟩ : ∃ WT, (W2.alloc (.cells #[.int .u8 T.f0, .string T.f1, .int .i64 T.f2, .int .i64 T.f3, .bool true] 62)).drew = WT := ⟨_, rfl⟩
  have hbT : Below W2.heap.size W2 WT := by rw [← hWT]; exact ((Below.refl _ W2).alloc (Nat.le_refl _) _).drew
  have hTT : WT.heap[W2.heap.size]? = some (.cells #[.int .u8 T.f0, .string T.f1, .int .i64 T.f2, .int .i64 T.f3, .bool true] 62 (0, 0)) := by rw [← hWT]; exact (MapKept.heap_alloc W2 _).1
  rw [hWT]
  have hBg := begins_calls T WT (hP0.below ((hw.trans (hb2.mono hw.size)).trans (hbT.mono (Nat.le_trans hw.size hb2.size))))
  rw [hbg] at hBg
  rw [h4] at hBg
  have HBG := Lib.hid hBg
  have a0 := Lib.cell_of_heap hTT 0
  have a1 := Lib.cell_of_heap hTT 1
  have a2 := Lib.cell_of_heap hTT 2
  have a3 := Lib.cell_of_heap hTT 3
  have a4 := Lib.cell_of_heap hTT 4
  have HTT := Lib.hid hTT
  have hlT : W2.heap.size < WT.heap.size := (Array.getElem?_eq_some_iff.1 hTT).1
  clear hWT hTT hBg hD0 hA0 hA1 hN0 t0 t1 t2 t3 t4 c0 c1 cb hbg
  go_wp2_with fail
  go_at_call 53
  refine HBG.out.mono ?_
  rintro e w3 ⟨rfl, hb3⟩
  have hT3 := (hb3.block W2.heap.size hlT).trans HTT.out
  have hB3 : Below W2.heap.size W2 w3 := hbT.trans (hb3.mono hbT.size)
  have h3 := (HH.out.below hb2).below hB3
  have hcb3 := (hB3.block W.heap.size (by have := HZ1.out; have := hb12.size; omega)).trans hR2
  have cb := Lib.cell_of_heap hcb3 0
  have d2 := Lib.cell_of_heap h3.box 2
  have d1 := Lib.cell_of_heap h3.box 1
  have f2 : w3.frozen? ⟨rb, 2, none⟩ = false := Lib.frozen_of_heap h3.box 2
  have f1 : w3.frozen? ⟨rb, 1, none⟩ = false := Lib.frozen_of_heap h3.box 1
  have e0 := Lib.cell_of_heap hT3 0
  have e1 := Lib.cell_of_heap hT3 1
  have e2 := Lib.cell_of_heap hT3 2
  have e3 := Lib.cell_of_heap hT3 3
  have e4 := Lib.cell_of_heap hT3 4
  have hdd : decide ((d : Int) + 1 > 64) = false := decide_eq_false (by omega)
  have n1 : ¬ rb = W.heap.size := by have := HH.out.rbl; omega
  have n2 : ¬ W.heap.size = rb := fun e => n1 e.symm
  have n3 : ¬ rb = W2.heap.size := by have := HH.out.rbl; have := hb2.size; omega
  have n4 : ¬ W2.heap.size = rb := fun e => n3 e.symm
  have n5 : ¬ rb = W1.heap.size := by have := HH.out.rbl; have := HZ1.out; omega
  obtain ⟨w5, hw5⟩ : ∃ w5, (w3.setCell ⟨rb, 2, none⟩ (.int .i64 ((d : Int) + 1))).setCell ⟨rb, 1, none⟩ (.int .i64 ((i : Int) + 1)) = w5 := ⟨_, rfl⟩
  have hR5 : Rd w5 rb (some ad) c toks (i + 1) (d + 1) ns nv := by rw [← hw5]; exact (h3.setD (d + 1) (by omega)).setI (i + 1) (by omega)
  have hF5 : Fr rb nv nv W w5 := by rw [← hw5]; exact (((Fr.of_below hb2).trans (Fr.of_below hB3)).trans (Fr.setBox _ _ _)).trans (Fr.setBox _ _ _)
  have hoth : ∀ q, q ≠ rb → w5.heap[q]? = w3.heap[q]? := fun q hq => by rw [← hw5, Below.heap_setCell _ _ _ _ hq, Below.heap_setCell _ _ _ _ hq]
  have hT5 := (hoth W2.heap.size (fun e => n4 e)).trans hT3
  have hcb5 := (hoth W.heap.size (fun e => n2 e)).trans hcb3
  have hZ5 := (hoth W1.heap.size (fun e => n5 e.symm)).trans ((hB3.block W1.heap.size (Array.getElem?_eq_some_iff.1 hZ2).1).trans hZ2)
  have g0 := Lib.cell_of_heap hT5 0
  have g1 := Lib.cell_of_heap hT5 1
  have g3 := Lib.cell_of_heap hT5 3
  have g4 := Lib.cell_of_heap hT5 4
  have HR5 := Lib.hid hR5
  have HF5 := Lib.hid hF5
  have HT5 := Lib.hid hT5
  have HCB5 := Lib.hid hcb5
  have HZ5 := Lib.hid hZ5
  have HR2 := Lib.hid hR2
  have HZ2' := Lib.hid hZ2
  have HB3 := Lib.hid hB3
  clear hR5 hF5 hT5 hcb5 hZ5 hT3 h3 hcb3 hoth hR2 hZ2 hR1 hbT hlT HS
  obtain ⟨ia, hia⟩ : ∃ j, i + 1 = j := ⟨_, rfl⟩
  have HIA := Lib.hid hia
  have HRA : Hid (Rd w5 rb (some ad) c toks ia (d + 1) ns nv) := by
    show Rd _ _ _ _ _ _ _ _ _
    rw [← hia]; exact HR5.out
  have hial := HRA.out.lt
  have q1 : w5.cell? ⟨rb, 1, none⟩ = some (.int .i64 ia) := Lib.cell_of_heap HRA.out.box 1
  have qf : w5.frozen? ⟨rb, 1, none⟩ = false := Lib.frozen_of_heap HRA.out.box 1
  have cbw := Lib.cell_of_heap HCB5.out 0
  have n10 : ¬ W1.heap.size = rb := fun e => n5 e.symm
  have hsz5 : W.heap.size + 2 ≤ w5.heap.size := by have := HZ1.out; have := (Array.getElem?_eq_some_iff.1 HZ5.out).1; omega
  obtain ⟨w6, hw6⟩ : ∃ w6, w5.setCell ⟨rb, 1, none⟩ (.int .i64 ((ia : Int) + 1)) = w6 := ⟨_, rfl⟩
  have hR6 : Rd w6 rb (some ad) c toks (i + 2) (d + 1) ns nv := by rw [← hw6, show i + 2 = ia + 1 by omega]; exact HRA.out.setI (ia + 1) (by omega)
  have hF56 : Fr rb nv nv w5 w6 := by rw [← hw6]; exact Fr.setBox _ _ _
  have hoth6 : ∀ q, q ≠ rb → w6.heap[q]? = w5.heap[q]? := fun q hq => by rw [← hw6]; exact Below.heap_setCell _ _ _ _ hq
  have hsz6 : w6.heap.size = w5.heap.size := by rw [← hw6]; simp [World.setCell]
  have hpc := parted_calls hrb HT.out (d + 1) (i + 2) ns l i1 ns' w6 nv HPM.out hR6 (Fr.base hw HH.out hrb (HF5.out.trans hF56))
  have HPC := Lib.hid hpc
  have hCB6 := (hoth6 W.heap.size n2).trans HCB5.out
  have hZ6 := (hoth6 W1.heap.size n10).trans HZ5.out
  have hT6 := (hoth6 W2.heap.size n4).trans HT5.out
  have cb6 := Lib.cell_of_heap hCB6 0
  have HCB6 := Lib.hid hCB6
  have HZ6 := Lib.hid hZ6
  have HT6 := Lib.hid hT6
  have HR6 := Lib.hid hR6
  have HF6 := Lib.hid (HF5.out.trans hF56)
  have HSZ := Lib.hid hsz6
  have HSZ5 := Lib.hid hsz5
  clear hpc hoth6 hR6 hF56 hCB6 hZ6 hT6 hsz6 hsz5 hia
  go_wp2_with fail
  go_at_call 59
  refine HPC.out.mono ?_
  rintro e w7 ⟨v, nv7, rfl, hR7, hF67, hO7⟩
  obtain ⟨B, cc, rfl, hcc⟩ := hO7.form
  have hCB7 := (hF67.block W.heap.size (Array.getElem?_eq_some_iff.1 HCB6.out).1 n2 (type_ne' HR6.out HCB6.out (by decide))).trans HCB6.out
  have hZ7 := (hF67.block W1.heap.size (Array.getElem?_eq_some_iff.1 HZ6.out).1 n10 (type_ne' HR6.out HZ6.out (by decide))).trans HZ6.out
  have hT7 := (hF67.block W2.heap.size (Array.getElem?_eq_some_iff.1 HT6.out).1 n4 (type_ne' HR6.out HT6.out (by decide))).trans HT6.out
  have cb7 := Lib.cell_of_heap hCB7 0
  have htk7 := take_calls ⟨#[41]⟩ hR7 (by rw [isT_eq, ← tk_eq toks i1 hR7.lt]; exact HSH.out) hi1
  have HTK := Lib.hid htk7
  have HCB7 := Lib.hid hCB7
  have HZ7 := Lib.hid hZ7
  have HT7 := Lib.hid hT7
  have HR7 := Lib.hid hR7
  have HF67 := Lib.hid hF67
  have HO7 := Lib.hid hO7
  clear htk7 hCB7 hZ7 hT7 hR7 hF67 hO7
  go_wp2_with fail
  go_at_call 57
  refine HTK.out.mono ?_
  rintro e w8 ⟨rfl, hR8, hF78⟩
  have hCB8 := (hF78.block W.heap.size (Array.getElem?_eq_some_iff.1 HCB7.out).1 n2 (type_ne' HR7.out HCB7.out (by decide))).trans HCB7.out
  have hZ8 := (hF78.block W1.heap.size (Array.getElem?_eq_some_iff.1 HZ7.out).1 n10 (type_ne' HR7.out HZ7.out (by decide))).trans HZ7.out
  have hT8 := (hF78.block W2.heap.size (Array.getElem?_eq_some_iff.1 HT7.out).1 n4 (type_ne' HR7.out HT7.out (by decide))).trans HT7.out
  have cb8 := Lib.cell_of_heap hCB8 0
  have u1 := Lib.cell_of_heap hT8 1
  have hrbl := HH.out.rbl
  have hO8 := HO7.out.fr HR7.out (by have := HSZ.out; have := HSZ5.out; omega) hF78
  obtain ⟨e1, e2, e3, e4⟩ := bltM_parts HBL.out
  have hOF := hO8.reads
  obtain ⟨B', cc', hv', hcc', hFl⟩ := hOF
  injection hv' with hB1 _ hB2
  subst hB1
  subst hB2
  have hbc := built_calls rb T.f1 B cc l _ hFl e1 e2 e3
  rw [e4] at hbc
  have HBC := Lib.hid hbc
  have HOL := Lib.hid hO8
  have HCB8 := Lib.hid hCB8
  have HZ8 := Lib.hid hZ8
  have HR8 := Lib.hid hR8
  have HF8 := Lib.hid ((HF6.out.trans HF67.out).trans hF78)
  have HS68 := Lib.hid (Nat.le_trans HF67.out.size hF78.size)
  clear hbc hO8 hCB8 hZ8 hT8 hR8 hF78 hFl e1 e2 e3 e4
  go_wp2_with fail
  go_at_call 36
  refine HBC.out.mono ?_
  rintro e w9 ⟨⟨vz, rfl, hz⟩, hb9⟩
  obtain ⟨A9, c9, rfl, hc9, hF9⟩ := hz
  have hCB9 := (hb9.block W.heap.size (Array.getElem?_eq_some_iff.1 HCB8.out).1).trans HCB8.out
  have hZ9 := (hb9.block W1.heap.size (Array.getElem?_eq_some_iff.1 HZ8.out).1).trans HZ8.out
  have z0 := Lib.cell_of_heap hZ9 0
  have z1 := Lib.cell_of_heap hZ9 1
  have z2 := Lib.cell_of_heap hZ9 2
  have z3 := Lib.cell_of_heap hZ9 3
  have y0 := Lib.frozen_of_heap hZ9 0
  have y1 := Lib.frozen_of_heap hZ9 1
  have y2 := Lib.frozen_of_heap hZ9 2
  have y3 := Lib.frozen_of_heap hZ9 3
  have HZ9 := Lib.hid hZ9
  have HCB9 := Lib.hid hCB9
  have HF9 := Lib.hid hF9
  have HR9 := Lib.hid (HR8.out.below hb9)
  have HFR9 := Lib.hid (HF8.out.trans (Fr.of_below hb9))
  have HB9 := Lib.hid hb9
  clear hZ9 hCB9 hF9 hb9
  go_wp2
  have hrow := setRow4 HZ9.out (.int .u8 z.f0) (.string z.f1) (.int .i64 z.f2) (.slice A9 z.f3.length c9)
  have hrbW : rb < W1.heap.size := by have := HZ1.out; omega
  have hR10 := HR9.out.other W1.heap.size hrbW (type_ne' HR9.out HZ9.out (by decide)) hrow.2
  have hF10 : Fr rb nv nv7 W _ := HFR9.out.set4 (g := W1.heap.size) hrow.2 (by have := HZ1.out; omega) (by simp [World.setCell])
  refine prim_leaves hR10 ((hrow.2 W.heap.size (by have := HZ1.out; omega)).trans HCB9.out) hrow.1 n10 rfl rfl ?_
  refine ⟨_, nv7, rfl, hR10.setD d (by omega), hF10.trans (Fr.setBox _ _ _), A9, c9, rfl, hc9, ?_⟩
  have hown8 := HR8.out.own
  have hW1s := HZ1.out
  have h65 := HSZ.out
  have h55 := HSZ5.out
  have h68 := HS68.out
  have good : ∀ q, (((Ap w6.heap.size rb nv7 q ∧ some q ≠ Value.ownBlock (.slice B l.length cc)) ∧ q < w8.heap.size ∨ some q = Value.ownBlock (.slice B l.length cc)) ∧ q < w8.heap.size) ∨ w8.heap.size ≤ q → Ap W.heap.size rb nv7 q ∧ q ≠ W1.heap.size := by
    intro q hq
    rcases hq with ⟨⟨⟨h1, _⟩, _⟩ | h1, _⟩ | h1
    · exact ⟨⟨by have := h1.1; omega, h1.2.1, h1.2.2⟩, by have := h1.1; omega⟩
    · obtain ⟨p1, _, cs, hcs⟩ := HOL.out.lt q h1.symm
      exact ⟨⟨by omega, by omega, type_ne' HR8.out hcs (by decide)⟩, by omega⟩
    · exact ⟨⟨by omega, by omega, fun e => by have := (hown8 q e.symm).2; omega⟩, by omega⟩
  refine Kd.F_mono (Kd.F_step HF9.out (fun q hq _ => ?_)) (fun q hq => (good q hq).1)
  exact (Below.heap_setCell _ _ _ _ (good q hq).1.2.1).trans (hrow.2 q (good q hq).2)
end Go.Proofs.YtecjdjdfikcliaaGreatDoor.Pr
