/- Several small texts of this claim in one. -/
import Derived.Test.YtecjdjdfikcliaaGreatDoorMPart
import Derived.Test.YtecjdjdfikcliaaGreatDoorPTermW
import Derived.Test.YtecjdjdfikcliaaGreatDoorPPrimO
section
/-
  The reader's primary: an atom.
-/
namespace Go.Proofs.YtecjdjdfikcliaaGreatDoor.Pr
open Go Go.Proofs.YtecjdjdfikcliaaGreatDoor
open Go.RowKit Go.Proofs.YtecjdjdfikcliaaGreatDoorW.PrintWords Go.Proofs.YtecjdjdfikcliaaGreatDoorW.PrintLast Go.Proofs.YtecjdjdfikcliaaGreatDoorW.PrintMore Go.Proofs.YtecjdjdfikcliaaGreatDoor.P

set_option maxHeartbeats 8000000 in
set_option maxRecDepth 100000 in
theorem prim_atom {w0 : World} {rb : Nat} {A : Option Addr} {c : Nat} {toks : List S62} (hP0 : LaidP w0) {d i : Nat} {p : Int} {ns : List ByteArray} {W : World} {nv : Value}
    (h0 : (tk toks i).f0 = 1) (h4 : (tk toks i).f4 = false) (h45 : bl (tk toks i).f1 ≠ [45]) (hpre : (preR (bl (tk toks i).f1)).2.2.2 = false) (hd64 : d + 1 ≤ 64) (hi2 : i + 2 < toks.length) (hbg : begM (tk toks i) = true) (h : Rd W rb A c toks i d ns nv) (hw : Below w0.heap.size w0 W) :
    Calls Tryz.prog 34 #[.pointer (some ⟨rb, 0, none⟩), .int .i64 p] W fun e w' => ∃ v nv', e = .returned (.tuple #[v, .int .i64 0]) ∧ Rd w' rb A c toks (i + 1) d ns nv' ∧ Fr rb nv nv' W w' ∧ TermF w' (Ap W.heap.size rb nv') ⟨3, (tk toks i).f1, 0, []⟩ v := by
  have hu24 := Tryz.underlying36
  have hu49 := Tryz.underlying62
  have hmf : ∀ (fn : Fn) (first cap : Array Value) (w : World), (Instr.makeFunc fn first cap).run Tryz.prog w = .ok (.func fn first cap) w := fun _ _ _ _ => rfl
  obtain ⟨W1, hW1⟩ : ∃ W1, W.alloc (.cells #[.pointer (some ⟨rb, 0, none⟩)] 58) = W1 := ⟨_, rfl⟩
  have hb1 : Below W.heap.size W W1 := by rw [← hW1]; exact (Below.refl _ W).alloc (Nat.le_refl _) _
  have hR1 : W1.heap[W.heap.size]? = some (.cells #[.pointer (some ⟨rb, 0, none⟩)] 58 (0, 0)) := by rw [← hW1]; exact (MapKept.heap_alloc W _).1
  have HZ1 : Hid (W1.heap.size = W.heap.size + 1) := by rw [← hW1]; exact World.size_alloc _ _
  obtain ⟨W2, hW2⟩ : ∃ W2, W1.alloc (.cells #[.int .u8 0, .string ⟨#[]⟩, .int .i64 0, .slice none 0 0] 36) = W2 := ⟨_, rfl⟩
  have hb12 : Below W1.heap.size W1 W2 := by rw [← hW2]; exact (Below.refl _ W1).alloc (Nat.le_refl _) _
  have hb2 : Below W.heap.size W W2 := hb1.trans (hb12.mono hb1.size)
  have hZ2 : W2.heap[W1.heap.size]? = some (.cells #[.int .u8 0, .string ⟨#[]⟩, .int .i64 0, .slice none 0 0] 36 (0, 0)) := by rw [← hW2]; exact (MapKept.heap_alloc W1 _).1
  have HZ2 : Hid (W2.heap.size = W1.heap.size + 1) := by rw [← hW2]; exact World.size_alloc _ _
  have hR2 := (hb12.block W.heap.size (by have := HZ1.out; omega)).trans hR1
  have h2 := h.below hb2
  obtain ⟨ad, rfl, c0, c1, c2, c3, hc⟩ := h2.cells
  obtain ⟨t0, t1, t2, t3, t4⟩ := hc i h.lt
  have hlt := h.lt
  have hfew := h.few
  have htk := tk_eq toks i h.lt
  have cb := Lib.cell_of_heap hR2 0
  obtain ⟨T, hTk⟩ : ∃ T, toks[i]'h.lt = T := ⟨_, rfl⟩
  rw [hTk] at t0 t1 t2 t3 t4 htk
  rw [htk] at hbg h0 h4 h45 hpre ⊢
  rw [h4] at t4
  have HS : Hid (∀ W', Below W2.heap.size W2 W' → W'.cell? ⟨W.heap.size, 0, none⟩ = some (.pointer (some ⟨rb, 0, none⟩)) ∧ W'.cell? ⟨rb, 0, none⟩ = some (.slice (some ad) toks.length c) ∧ W'.cell? ⟨rb, 1, none⟩ = some (.int .i64 i) ∧ W'.cell? (ad.add (i * 5)) = some (.int .u8 T.f0) ∧ W'.cell? ⟨(ad.add (i * 5)).block, (ad.add (i * 5)).off + 1, none⟩ = some (.string T.f1) ∧
      W'.cell? ⟨(ad.add (i * 5)).block, (ad.add (i * 5)).off + 2, none⟩ = some (.int .i64 T.f2) ∧ W'.cell? ⟨(ad.add (i * 5)).block, (ad.add (i * 5)).off + 3, none⟩ = some (.int .i64 T.f3) ∧ W'.cell? ⟨(ad.add (i * 5)).block, (ad.add (i * 5)).off + 4, none⟩ = some (.bool false)) :=
    fun W' hW => ⟨(hW.cell (World.block_lt_of_cell? W2 _ cb)).trans cb, (hW.cell (World.block_lt_of_cell? W2 _ c0)).trans c0, (hW.cell (World.block_lt_of_cell? W2 _ c1)).trans c1, (hW.cell (World.block_lt_of_cell? W2 _ t0)).trans t0, (hW.cell (World.block_lt_of_cell? W2 _ t1)).trans t1, (hW.cell (World.block_lt_of_cell? W2 _ t2)).trans t2, (hW.cell (World.block_lt_of_cell? W2 _ t3)).trans t3, (hW.cell (World.block_lt_of_cell? W2 _ t4)).trans t4⟩
  have hD0 := HS.out _ ((Below.refl _ W2).drew)
  have hA0 := fun o => HS.out _ (((Below.refl _ W2).drew).alloc (Nat.le_refl _) o)
  have HH := Lib.hid h
  have HNX := Lib.hid hc
  have k1 : (T.f0 == 1) = true := by simp [h0]
  have k2 : (T.f0 == 2) = false := by simp [h0]
  have k3 : (T.f0 == 3) = false := by simp [h0]
  have k4 : (T.f0 == 4) = false := by simp [h0]
  have k5 : (T.f0 == 5) = false := by simp [h0]
  have k45 : (T.f1.toList == [45]) = false := by rw [teqP]; exact decide_eq_false h45
  have HPRE := Lib.hid hpre
  have H4 := Lib.hid h4
  clear h0 h45 hpre
  clear hc h c2 c3 hTk htk
  go_enter_defers Tryz.func34, Tryz.ntmps34
  go_wp2_with fail
  have hA1 := fun o : Obj => HS.out _ ((Below.refl _ W2).alloc (Nat.le_refl _) o)
  have hN0 := HS.out _ (Below.refl _ W2)
  go_region
  obtain ⟨WT, hWT⟩ : ∃ WT, (W2.alloc (.cells #[.int .u8 T.f0, .string T.f1, .int .i64 T.f2, .int .i64 T.f3, .bool false] 62)).drew = WT := ⟨_, rfl⟩
  have hbT : Below W2.heap.size W2 WT := by rw [← hWT]; exact ((Below.refl _ W2).alloc (Nat.le_refl _) _).drew
  have hTT : WT.heap[W2.heap.size]? = some (.cells #[.int .u8 T.f0, .string T.f1, .int .i64 T.f2, .int .i64 T.f3, .bool false] 62 (0, 0)) := by rw [← hWT]; exact (MapKept.heap_alloc W2 _).1
  rw [hWT]
  have hBg := begins_calls T WT (hP0.below ((hw.trans (hb2.mono hw.size)).trans (hbT.mono (Nat.le_trans hw.size hb2.size))))
  rw [hbg] at hBg
  rw [h4] at hBg
  have HBG := Lib.hid hBg
  have a0 := Lib.cell_of_heap hTT 0
  have a1 := Lib.cell_of_heap hTT 1
  have a2 := Lib.cell_of_heap hTT 2
  have a3 := Lib.cell_of_heap hTT 3
  have a4 := Lib.cell_of_heap hTT 4
  have HTT := Lib.hid hTT
  have hlT : W2.heap.size < WT.heap.size := (Array.getElem?_eq_some_iff.1 hTT).1
  clear hWT hTT hBg hD0 hA0 hA1 hN0 t0 t1 t2 t3 t4 c0 c1 cb hbg
  go_wp2_with fail
  go_at_call 53
  refine HBG.out.mono ?_
  rintro e w3 ⟨rfl, hb3⟩
  as_aux_lemma =>
    have hT3 := (hb3.block W2.heap.size hlT).trans HTT.out
    have hB3 : Below W2.heap.size W2 w3 := hbT.trans (hb3.mono hbT.size)
    have h3 := (HH.out.below hb2).below hB3
    have hcb3 := (hB3.block W.heap.size (by have := HZ1.out; have := hb12.size; omega)).trans hR2
    have cb := Lib.cell_of_heap hcb3 0
    have d2 := Lib.cell_of_heap h3.box 2
    have d1 := Lib.cell_of_heap h3.box 1
    have f2 : w3.frozen? ⟨rb, 2, none⟩ = false := Lib.frozen_of_heap h3.box 2
    have f1 : w3.frozen? ⟨rb, 1, none⟩ = false := Lib.frozen_of_heap h3.box 1
    have e0 := Lib.cell_of_heap hT3 0
    have e1 := Lib.cell_of_heap hT3 1
    have e2 := Lib.cell_of_heap hT3 2
    have e3 := Lib.cell_of_heap hT3 3
    have e4 := Lib.cell_of_heap hT3 4
    have hdd : decide ((d : Int) + 1 > 64) = false := decide_eq_false (by omega)
    have n1 : ¬ rb = W.heap.size := by have := HH.out.rbl; omega
    have n2 : ¬ W.heap.size = rb := fun e => n1 e.symm
    have n3 : ¬ rb = W2.heap.size := by have := HH.out.rbl; have := hb2.size; omega
    have n4 : ¬ W2.heap.size = rb := fun e => n3 e.symm
    have n5 : ¬ rb = W1.heap.size := by have := HH.out.rbl; have := HZ1.out; omega
    obtain ⟨w5, hw5⟩ : ∃ w5, (w3.setCell ⟨rb, 2, none⟩ (.int .i64 ((d : Int) + 1))).setCell ⟨rb, 1, none⟩ (.int .i64 ((i : Int) + 1)) = w5 := ⟨_, rfl⟩
    have hR5 : Rd w5 rb (some ad) c toks (i + 1) (d + 1) ns nv := by rw [← hw5]; exact (h3.setD (d + 1) (by omega)).setI (i + 1) (by omega)
    have hF5 : Fr rb nv nv W w5 := by rw [← hw5]; exact (((Fr.of_below hb2).trans (Fr.of_below hB3)).trans (Fr.setBox _ _ _)).trans (Fr.setBox _ _ _)
    have hoth : ∀ q, q ≠ rb → w5.heap[q]? = w3.heap[q]? := fun q hq => by rw [← hw5, Below.heap_setCell _ _ _ _ hq, Below.heap_setCell _ _ _ _ hq]
    have hT5 := (hoth W2.heap.size (fun e => n4 e)).trans hT3
    have hcb5 := (hoth W.heap.size (fun e => n2 e)).trans hcb3
    have hZ5 := (hoth W1.heap.size (fun e => n5 e.symm)).trans ((hB3.block W1.heap.size (Array.getElem?_eq_some_iff.1 hZ2).1).trans hZ2)
    have g0 := Lib.cell_of_heap hT5 0
    have g1 := Lib.cell_of_heap hT5 1
    have g3 := Lib.cell_of_heap hT5 3
    have g4 := Lib.cell_of_heap hT5 4
    have HR5 := Lib.hid hR5
    have HF5 := Lib.hid hF5
    have HT5 := Lib.hid hT5
    have HCB5 := Lib.hid hcb5
    have HZ5 := Lib.hid hZ5
    have HR2 := Lib.hid hR2
    have HZ2' := Lib.hid hZ2
    have HB3 := Lib.hid hB3
    clear hR5 hF5 hT5 hcb5 hZ5 hT3 h3 hcb3 hoth hR2 hZ2 hR1 hbT hlT HS
    go_wp2_with fail
    as_aux_lemma =>
      obtain ⟨i1, hi1⟩ : ∃ j, i + 1 = j := ⟨_, rfl⟩
      have HI1 := Lib.hid hi1
      have HRA : Hid (Rd w5 rb (some ad) c toks i1 (d + 1) ns nv) := by
        show Rd _ _ _ _ _ _ _ _ _
        rw [← hi1]; exact HR5.out
      obtain ⟨ad2, had2, r0, r1, _, _, hN⟩ := HRA.out.cells
      obtain rfl : ad = ad2 := Option.some.inj had2
      obtain ⟨s0, s1, s2, s3, s4⟩ := hN i1 HRA.out.lt
      have hlt1 := HRA.out.lt
      obtain ⟨Nt, hNt⟩ : ∃ T, toks[i1]'HRA.out.lt = T := ⟨_, rfl⟩
      rw [hNt] at s0 s1 s2 s3 s4
      have cbw := Lib.cell_of_heap HCB5.out 0
      have HS : Hid (∀ W', Below w5.heap.size w5 W' → W'.cell? ⟨W.heap.size, 0, none⟩ = some (.pointer (some ⟨rb, 0, none⟩)) ∧ W'.cell? ⟨rb, 0, none⟩ = some (.slice (some ad) toks.length c) ∧ W'.cell? ⟨rb, 1, none⟩ = some (.int .i64 i1) ∧ W'.cell? (ad.add (i1 * 5)) = some (.int .u8 Nt.f0) ∧ W'.cell? ⟨(ad.add (i1 * 5)).block, (ad.add (i1 * 5)).off + 1, none⟩ = some (.string Nt.f1) ∧
          W'.cell? ⟨(ad.add (i1 * 5)).block, (ad.add (i1 * 5)).off + 2, none⟩ = some (.int .i64 Nt.f2) ∧ W'.cell? ⟨(ad.add (i1 * 5)).block, (ad.add (i1 * 5)).off + 3, none⟩ = some (.int .i64 Nt.f3) ∧ W'.cell? ⟨(ad.add (i1 * 5)).block, (ad.add (i1 * 5)).off + 4, none⟩ = some (.bool Nt.f4)) :=
        fun W' hW => ⟨(hW.cell (World.block_lt_of_cell? w5 _ cbw)).trans cbw, (hW.cell (World.block_lt_of_cell? w5 _ r0)).trans r0, (hW.cell (World.block_lt_of_cell? w5 _ r1)).trans r1, (hW.cell (World.block_lt_of_cell? w5 _ s0)).trans s0, (hW.cell (World.block_lt_of_cell? w5 _ s1)).trans s1, (hW.cell (World.block_lt_of_cell? w5 _ s2)).trans s2, (hW.cell (World.block_lt_of_cell? w5 _ s3)).trans s3, (hW.cell (World.block_lt_of_cell? w5 _ s4)).trans s4⟩
      clear s0 s1 s2 s3 s4 r0 r1 cbw hN hNt had2 hw5 hi1 g0 g1 g3 g4 cb d1 d2 f1 f2 e0 e1 e2 e3 e4
      have hD0 := HS.out _ ((Below.refl _ w5).drew)
      have hA0 := fun o => HS.out _ (((Below.refl _ w5).drew).alloc (Nat.le_refl _) o)
      have N5 := Lib.hid n5
      clear k1 k2 k3 k4 k5 n1 n3 n5 hdd hmf HS
      refine wp_region_noPanic ?_
      go_region_held (fun W' => W'.cell? ⟨W.heap.size, 0, none⟩ = some (.pointer (some ⟨rb, 0, none⟩)) ∧ W'.cell? ⟨rb, 0, none⟩ = some (.slice (some ad) toks.length c) ∧ W'.cell? ⟨rb, 1, none⟩ = some (.int .i64 i1) ∧ W'.cell? (ad.add (i1 * 5)) = some (.int .u8 Nt.f0) ∧ W'.cell? ⟨(ad.add (i1 * 5)).block, (ad.add (i1 * 5)).off + 1, none⟩ = some (.string Nt.f1) ∧
          W'.cell? ⟨(ad.add (i1 * 5)).block, (ad.add (i1 * 5)).off + 2, none⟩ = some (.int .i64 Nt.f2) ∧ W'.cell? ⟨(ad.add (i1 * 5)).block, (ad.add (i1 * 5)).off + 3, none⟩ = some (.int .i64 Nt.f3) ∧ W'.cell? ⟨(ad.add (i1 * 5)).block, (ad.add (i1 * 5)).off + 4, none⟩ = some (.bool Nt.f4))
        (first | exact hD0 | exact hA0 _)
        (fail)
      refine NoPanic.normal ?_
      as_aux_lemma =>
        obtain ⟨w6, hw6⟩ : ∃ w6, (w5.alloc (.cells #[.int .u8 Nt.f0, .string Nt.f1, .int .i64 Nt.f2, .int .i64 Nt.f3, .bool Nt.f4] 62)).drew = w6 := ⟨_, rfl⟩
        have hb6 : Below w5.heap.size w5 w6 := by rw [← hw6]; exact ((Below.refl _ w5).alloc (Nat.le_refl _) _).drew
        rw [hw6]
        have hT6 := (hb6.block W2.heap.size (Array.getElem?_eq_some_iff.1 HT5.out).1).trans HT5.out
        have u1 := Lib.cell_of_heap hT6 1
        have hpf := Prefix_calls T.f1 w6
        rw [HPRE.out] at hpf
        have HPF := Lib.hid hpf
        have HT6 := Lib.hid hT6
        clear hw6 hpf hT6 hD0 hA0
        go_wp2_with fail
        go_at_call 8
        refine HPF.out.mono ?_
        rintro e w7 ⟨rfl, hb7⟩
        have hb57 := hb6.trans (hb7.mono hb6.size)
        have hT7 := (hb57.block W2.heap.size (Array.getElem?_eq_some_iff.1 HT5.out).1).trans HT5.out
        have u1 := Lib.cell_of_heap hT7 1
        clear hT7
        go_wp2_with fail
        go_at_call 16
        refine (A_calls _ _).mono ?_
        rintro e w8 ⟨rfl, hb8⟩
        have hb58 := hb57.trans (hb8.mono hb57.size)
        have hZ8 := (hb58.block W1.heap.size (Array.getElem?_eq_some_iff.1 HZ5.out).1).trans HZ5.out
        have hCB8 := (hb58.block W.heap.size (Array.getElem?_eq_some_iff.1 HCB5.out).1).trans HCB5.out
        have z0 := Lib.cell_of_heap hZ8 0
        have z1 := Lib.cell_of_heap hZ8 1
        have z2 := Lib.cell_of_heap hZ8 2
        have z3 := Lib.cell_of_heap hZ8 3
        have y0 := Lib.frozen_of_heap hZ8 0
        have y1 := Lib.frozen_of_heap hZ8 1
        have y2 := Lib.frozen_of_heap hZ8 2
        have y3 := Lib.frozen_of_heap hZ8 3
        have HZ8 := Lib.hid hZ8
        have HCB8 := Lib.hid hCB8
        clear hZ8 hCB8 u1
        go_wp2
        have hrow := setRow4 HZ8.out (.int .u8 3) (.string T.f1) (.int .i64 0) (.slice none 0 0)
        have hrbW : rb < W1.heap.size := by have := HH.out.rbl; have := HZ1.out; omega
        have hR8 := (HRA.out.below hb58).other W1.heap.size hrbW (type_ne' (HRA.out.below hb58) HZ8.out (by decide)) hrow.2
        have hF8 : Fr rb nv nv W _ := (HF5.out.trans (Fr.of_below hb58)).set4 (g := W1.heap.size) hrow.2 (by have := HZ1.out; omega) (by simp [World.setCell])
        rw [← HI1.out] at hR8
        refine prim_leaves hR8 ((hrow.2 W.heap.size (by have := HZ1.out; omega)).trans HCB8.out) hrow.1 (fun e => N5.out e.symm) rfl rfl ?_
        exact ⟨_, nv, rfl, hR8.setD d (by omega), hF8.trans (Fr.setBox _ _ _), TermF.nil _ _ _⟩
end Go.Proofs.YtecjdjdfikcliaaGreatDoor.Pr
end
section
/-
  The reader's primary: a variable.
-/
namespace Go.Proofs.YtecjdjdfikcliaaGreatDoor.Pr
open Go Go.Proofs.YtecjdjdfikcliaaGreatDoor
open Go.RowKit Go.Proofs.YtecjdjdfikcliaaGreatDoorW.PrintWords Go.Proofs.YtecjdjdfikcliaaGreatDoorW.PrintLast Go.Proofs.YtecjdjdfikcliaaGreatDoorW.PrintMore Go.Proofs.YtecjdjdfikcliaaGreatDoor.P

set_option maxHeartbeats 8000000 in
set_option maxRecDepth 100000 in
theorem prim_var {w0 : World} {rb : Nat} {A : Option Addr} {c : Nat} {toks : List S62} (hP0 : LaidP w0) {d i : Nat} {p : Int} {ns : List ByteArray} {W : World} {nv : Value}
    {x : Nat × List ByteArray} (h0 : (tk toks i).f0 = 3) (hv : varM ns (tk toks i).f1 = some x) (hd64 : d + 1 ≤ 64) (hi2 : i + 2 < toks.length) (hbg : begM (tk toks i) = true) (h : Rd W rb A c toks i d ns nv) (hw : Below w0.heap.size w0 W) :
    Calls Tryz.prog 34 #[.pointer (some ⟨rb, 0, none⟩), .int .i64 p] W fun e w' => ∃ v nv', e = .returned (.tuple #[v, .int .i64 0]) ∧ Rd w' rb A c toks (i + 1) d x.2 nv' ∧ Fr rb nv nv' W w' ∧ TermF w' (Ap W.heap.size rb nv') ⟨1, ⟨#[]⟩, x.1, []⟩ v := by
  have hu24 := Tryz.underlying36
  have hu49 := Tryz.underlying62
  have hmf : ∀ (fn : Fn) (first cap : Array Value) (w : World), (Instr.makeFunc fn first cap).run Tryz.prog w = .ok (.func fn first cap) w := fun _ _ _ _ => rfl
  obtain ⟨W1, hW1⟩ : ∃ W1, W.alloc (.cells #[.pointer (some ⟨rb, 0, none⟩)] 58) = W1 := ⟨_, rfl⟩
  have hb1 : Below W.heap.size W W1 := by rw [← hW1]; exact (Below.refl _ W).alloc (Nat.le_refl _) _
  have hR1 : W1.heap[W.heap.size]? = some (.cells #[.pointer (some ⟨rb, 0, none⟩)] 58 (0, 0)) := by rw [← hW1]; exact (MapKept.heap_alloc W _).1
  have HZ1 : Hid (W1.heap.size = W.heap.size + 1) := by rw [← hW1]; exact World.size_alloc _ _
  obtain ⟨W2, hW2⟩ : ∃ W2, W1.alloc (.cells #[.int .u8 0, .string ⟨#[]⟩, .int .i64 0, .slice none 0 0] 36) = W2 := ⟨_, rfl⟩
  have hb12 : Below W1.heap.size W1 W2 := by rw [← hW2]; exact (Below.refl _ W1).alloc (Nat.le_refl _) _
  have hb2 : Below W.heap.size W W2 := hb1.trans (hb12.mono hb1.size)
  have hZ2 : W2.heap[W1.heap.size]? = some (.cells #[.int .u8 0, .string ⟨#[]⟩, .int .i64 0, .slice none 0 0] 36 (0, 0)) := by rw [← hW2]; exact (MapKept.heap_alloc W1 _).1
  have HZ2 : Hid (W2.heap.size = W1.heap.size + 1) := by rw [← hW2]; exact World.size_alloc _ _
  have hR2 := (hb12.block W.heap.size (by have := HZ1.out; omega)).trans hR1
  have h2 := h.below hb2
  obtain ⟨ad, rfl, c0, c1, c2, c3, hc⟩ := h2.cells
  obtain ⟨t0, t1, t2, t3, t4⟩ := hc i h.lt
  have hlt := h.lt
  have hfew := h.few
  have htk := tk_eq toks i h.lt
  have cb := Lib.cell_of_heap hR2 0
  obtain ⟨T, hTk⟩ : ∃ T, toks[i]'h.lt = T := ⟨_, rfl⟩
  rw [hTk] at t0 t1 t2 t3 t4 htk
  rw [htk] at hbg h0 hv
  skip
  have HS : Hid (∀ W', Below W2.heap.size W2 W' → W'.cell? ⟨W.heap.size, 0, none⟩ = some (.pointer (some ⟨rb, 0, none⟩)) ∧ W'.cell? ⟨rb, 0, none⟩ = some (.slice (some ad) toks.length c) ∧ W'.cell? ⟨rb, 1, none⟩ = some (.int .i64 i) ∧ W'.cell? (ad.add (i * 5)) = some (.int .u8 T.f0) ∧ W'.cell? ⟨(ad.add (i * 5)).block, (ad.add (i * 5)).off + 1, none⟩ = some (.string T.f1) ∧
      W'.cell? ⟨(ad.add (i * 5)).block, (ad.add (i * 5)).off + 2, none⟩ = some (.int .i64 T.f2) ∧ W'.cell? ⟨(ad.add (i * 5)).block, (ad.add (i * 5)).off + 3, none⟩ = some (.int .i64 T.f3) ∧ W'.cell? ⟨(ad.add (i * 5)).block, (ad.add (i * 5)).off + 4, none⟩ = some (.bool T.f4)) :=
    fun W' hW => ⟨(hW.cell (World.block_lt_of_cell? W2 _ cb)).trans cb, (hW.cell (World.block_lt_of_cell? W2 _ c0)).trans c0, (hW.cell (World.block_lt_of_cell? W2 _ c1)).trans c1, (hW.cell (World.block_lt_of_cell? W2 _ t0)).trans t0, (hW.cell (World.block_lt_of_cell? W2 _ t1)).trans t1, (hW.cell (World.block_lt_of_cell? W2 _ t2)).trans t2, (hW.cell (World.block_lt_of_cell? W2 _ t3)).trans t3, (hW.cell (World.block_lt_of_cell? W2 _ t4)).trans t4⟩
  have hD0 := HS.out _ ((Below.refl _ W2).drew)
  have hA0 := fun o => HS.out _ (((Below.refl _ W2).drew).alloc (Nat.le_refl _) o)
  have HH := Lib.hid h
  have HNX := Lib.hid hc
  have k1 : (T.f0 == 1) = false := by simp [h0]
  have k2 : (T.f0 == 2) = false := by simp [h0]
  have k3 : (T.f0 == 3) = true := by simp [h0]
  have k4 : (T.f0 == 4) = false := by simp [h0]
  have k5 : (T.f0 == 5) = false := by simp [h0]
  have HV := Lib.hid hv
  clear h0 hv
  clear hc h c2 c3 hTk htk
  go_enter_defers Tryz.func34, Tryz.ntmps34
  go_wp2_with fail
  have hA1 := fun o : Obj => HS.out _ ((Below.refl _ W2).alloc (Nat.le_refl _) o)
  have hN0 := HS.out _ (Below.refl _ W2)
  go_region
  obtain ⟨WT, hWT⟩ : ∃ WT, (W2.alloc (.cells #[.int .u8 T.f0, .string T.f1, .int .i64 T.f2, .int .i64 T.f3, .bool T.f4] 62)).drew = WT := ⟨_, rfl⟩
  have hbT : Below W2.heap.size W2 WT := by rw [← hWT]; exact ((Below.refl _ W2).alloc (Nat.le_refl _) _).drew
  have hTT : WT.heap[W2.heap.size]? = some (.cells #[.int .u8 T.f0, .string T.f1, .int .i64 T.f2, .int .i64 T.f3, .bool T.f4] 62 (0, 0)) := by rw [← hWT]; exact (MapKept.heap_alloc W2 _).1
  rw [hWT]
  have hBg := begins_calls T WT (hP0.below ((hw.trans (hb2.mono hw.size)).trans (hbT.mono (Nat.le_trans hw.size hb2.size))))
  rw [hbg] at hBg
  skip
  have HBG := Lib.hid hBg
  have a0 := Lib.cell_of_heap hTT 0
  have a1 := Lib.cell_of_heap hTT 1
  have a2 := Lib.cell_of_heap hTT 2
  have a3 := Lib.cell_of_heap hTT 3
  have a4 := Lib.cell_of_heap hTT 4
  have HTT := Lib.hid hTT
  have hlT : W2.heap.size < WT.heap.size := (Array.getElem?_eq_some_iff.1 hTT).1
  clear hWT hTT hBg hD0 hA0 hA1 hN0 t0 t1 t2 t3 t4 c0 c1 cb hbg
  go_wp2_with fail
  go_at_call 53
  refine HBG.out.mono ?_
  rintro e w3 ⟨rfl, hb3⟩
  have hT3 := (hb3.block W2.heap.size hlT).trans HTT.out
  have hB3 : Below W2.heap.size W2 w3 := hbT.trans (hb3.mono hbT.size)
  have h3 := (HH.out.below hb2).below hB3
  have hcb3 := (hB3.block W.heap.size (by have := HZ1.out; have := hb12.size; omega)).trans hR2
  have cb := Lib.cell_of_heap hcb3 0
  have d2 := Lib.cell_of_heap h3.box 2
  have d1 := Lib.cell_of_heap h3.box 1
  have f2 : w3.frozen? ⟨rb, 2, none⟩ = false := Lib.frozen_of_heap h3.box 2
  have f1 : w3.frozen? ⟨rb, 1, none⟩ = false := Lib.frozen_of_heap h3.box 1
  have e0 := Lib.cell_of_heap hT3 0
  have e1 := Lib.cell_of_heap hT3 1
  have e2 := Lib.cell_of_heap hT3 2
  have e3 := Lib.cell_of_heap hT3 3
  have e4 := Lib.cell_of_heap hT3 4
  have hdd : decide ((d : Int) + 1 > 64) = false := decide_eq_false (by omega)
  have n1 : ¬ rb = W.heap.size := by have := HH.out.rbl; omega
  have n2 : ¬ W.heap.size = rb := fun e => n1 e.symm
  have n3 : ¬ rb = W2.heap.size := by have := HH.out.rbl; have := hb2.size; omega
  have n4 : ¬ W2.heap.size = rb := fun e => n3 e.symm
  have n5 : ¬ rb = W1.heap.size := by have := HH.out.rbl; have := HZ1.out; omega
  obtain ⟨w5, hw5⟩ : ∃ w5, (w3.setCell ⟨rb, 2, none⟩ (.int .i64 ((d : Int) + 1))).setCell ⟨rb, 1, none⟩ (.int .i64 ((i : Int) + 1)) = w5 := ⟨_, rfl⟩
  have hR5 : Rd w5 rb (some ad) c toks (i + 1) (d + 1) ns nv := by rw [← hw5]; exact (h3.setD (d + 1) (by omega)).setI (i + 1) (by omega)
  have hF5 : Fr rb nv nv W w5 := by rw [← hw5]; exact (((Fr.of_below hb2).trans (Fr.of_below hB3)).trans (Fr.setBox _ _ _)).trans (Fr.setBox _ _ _)
  have hoth : ∀ q, q ≠ rb → w5.heap[q]? = w3.heap[q]? := fun q hq => by rw [← hw5, Below.heap_setCell _ _ _ _ hq, Below.heap_setCell _ _ _ _ hq]
  have hT5 := (hoth W2.heap.size (fun e => n4 e)).trans hT3
  have hcb5 := (hoth W.heap.size (fun e => n2 e)).trans hcb3
  have hZ5 := (hoth W1.heap.size (fun e => n5 e.symm)).trans ((hB3.block W1.heap.size (Array.getElem?_eq_some_iff.1 hZ2).1).trans hZ2)
  have g0 := Lib.cell_of_heap hT5 0
  have g1 := Lib.cell_of_heap hT5 1
  have g3 := Lib.cell_of_heap hT5 3
  have g4 := Lib.cell_of_heap hT5 4
  have HR5 := Lib.hid hR5
  have HF5 := Lib.hid hF5
  have HT5 := Lib.hid hT5
  have HCB5 := Lib.hid hcb5
  have HZ5 := Lib.hid hZ5
  have HR2 := Lib.hid hR2
  have HZ2' := Lib.hid hZ2
  have HB3 := Lib.hid hB3
  clear hR5 hF5 hT5 hcb5 hZ5 hT3 h3 hcb3 hoth hR2 hZ2 hR1 hbT hlT HS
  have HVC := Lib.hid (variable_calls (n := x.1) (ns' := x.2) T.f1 HR5.out HV.out)
  have cbw := Lib.cell_of_heap HCB5.out 0
  have n10 : ¬ W1.heap.size = rb := fun e => n5 e.symm
  go_wp2_with fail
  go_at_call 56
  refine HVC.out.mono ?_
  rintro e w8 ⟨rfl, nv8, hR8, hF58⟩
  have hZ8 := (hF58.block W1.heap.size (Array.getElem?_eq_some_iff.1 HZ5.out).1 n10 (type_ne' HR5.out HZ5.out (by decide))).trans HZ5.out
  have hCB8 := (hF58.block W.heap.size (Array.getElem?_eq_some_iff.1 HCB5.out).1 n2 (type_ne' HR5.out HCB5.out (by decide))).trans HCB5.out
  have z0 := Lib.cell_of_heap hZ8 0
  have z1 := Lib.cell_of_heap hZ8 1
  have z2 := Lib.cell_of_heap hZ8 2
  have z3 := Lib.cell_of_heap hZ8 3
  have y0 := Lib.frozen_of_heap hZ8 0
  have y1 := Lib.frozen_of_heap hZ8 1
  have y2 := Lib.frozen_of_heap hZ8 2
  have y3 := Lib.frozen_of_heap hZ8 3
  have HZ8 := Lib.hid hZ8
  have HCB8 := Lib.hid hCB8
  have HR8 := Lib.hid hR8
  have HF58 := Lib.hid hF58
  clear hZ8 hCB8 hR8 hF58
  go_wp2
  have hrow := setRow4 HZ8.out (.int .u8 1) (.string ⟨#[]⟩) (.int .i64 x.1) (.slice none 0 0)
  have hrbW : rb < W1.heap.size := by have := HH.out.rbl; have := HZ1.out; omega
  have hR9 := HR8.out.other W1.heap.size hrbW (type_ne' HR8.out HZ8.out (by decide)) hrow.2
  have hF9 : Fr rb nv nv8 W _ := (HF5.out.trans HF58.out).set4 (g := W1.heap.size) hrow.2 (by have := HZ1.out; omega) (by simp [World.setCell])
  refine prim_leaves hR9 ((hrow.2 W.heap.size (by have := HZ1.out; omega)).trans HCB8.out) hrow.1 n10 rfl rfl ?_
  exact ⟨_, nv8, rfl, hR9.setD d (by omega), hF9.trans (Fr.setBox _ _ _), TermF.nil _ _ _⟩
end Go.Proofs.YtecjdjdfikcliaaGreatDoor.Pr
end
section
/-
  All terms that the plain rounds serve are read.
-/
namespace Go.Proofs.YtecjdjdfikcliaaGreatDoor.Pr
open Go Go.Proofs.YtecjdjdfikcliaaGreatDoor
open Go.RowKit Go.Proofs.YtecjdjdfikcliaaGreatDoorW.PrintWords Go.Proofs.YtecjdjdfikcliaaGreatDoorW.PrintLast Go.Proofs.YtecjdjdfikcliaaGreatDoorW.PrintMore Go.Proofs.YtecjdjdfikcliaaGreatDoor.P

theorem prim_ok {w0 : World} {rb : Nat} {A : Option Addr} {c : Nat} {toks : List S62} (hrb : w0.heap.size ≤ rb) (hP0 : LaidP w0) {k : Nat} (hT : ∀ j, j < k + 1 → TermOK w0 rb A c toks j) : PrimOK w0 rb A c toks (k + 1) := by
  intro d p i ns x had i' ns' W nv hp h hw
  rw [primM] at hp
  by_cases hbad : begM (tk toks i) = false ∨ d + 1 > 64 ∨ ¬ i + 2 < toks.length
  · rw [if_pos hbad] at hp; cases hp
  rw [if_neg hbad] at hp
  have hd64 : d + 1 ≤ 64 := by
    rcases Nat.lt_or_ge 64 (d + 1) with q | q
    · exact absurd (.inr (.inl q)) hbad
    · exact q
  have hi2 : i + 2 < toks.length := Decidable.byContradiction fun q => hbad (.inr (.inr q))
  have hbg : begM (tk toks i) = true := by
    cases hq : begM (tk toks i) with
    | true => rfl
    | false => exact absurd (.inl hq) hbad
  by_cases h3 : (tk toks i).f0 = 3
  · rw [if_pos h3] at hp
    cases hv : varM ns (tk toks i).f1 with
    | none => rw [hv] at hp; cases hp
    | some y =>
      rw [hv, Option.bind_some] at hp
      injection hp with hp
      injection hp with e1 hp
      injection hp with e2 hp
      injection hp with e3 e4
      subst e1; subst e2; subst e3; subst e4
      exact prim_var hP0 h3 hv hd64 hi2 hbg h hw
  rw [if_neg h3] at hp
  by_cases h1 : (tk toks i).f0 = 1
  · rw [if_pos h1] at hp
    by_cases h4 : (tk toks i).f4 = true
    · rw [if_pos h4] at hp
      cases hpm : partM toks k (d + 1) (i + 2) ns with
      | none => rw [hpm] at hp; cases hp
      | some r =>
        obtain ⟨l, i1, ns1⟩ := r
        rw [hpm, Option.bind_some] at hp
        simp only [] at hp
        by_cases hs : isT (tk toks i1) [41] = true ∧ i1 + 1 < toks.length
        · rw [if_pos hs] at hp
          cases hb : bltM (tk toks i).f1 l with
          | none => rw [hb] at hp; cases hp
          | some z =>
            rw [hb, Option.bind_some] at hp
            injection hp with hp
            injection hp with e1 hp
            injection hp with e2 hp
            injection hp with e3 e4
            subst e1; subst e2; subst e3; subst e4
            exact prim_open hrb hP0 (fun j hj => hT j (Nat.lt_succ_of_lt hj)) h1 h4 hpm hs.1 hs.2 hb hd64 hi2 hbg h hw
        · rw [if_neg hs] at hp; cases hp
    · rw [if_neg h4] at hp
      by_cases hx : bl (tk toks i).f1 = [45] ∨ (preR (bl (tk toks i).f1)).2.2.2 = true
      · rw [if_pos hx] at hp; cases hp
      · rw [if_neg hx] at hp
        injection hp with hp
        injection hp with e1 hp
        injection hp with e2 hp
        injection hp with e3 e4
        subst e1; subst e2; subst e3; subst e4
        exact prim_atom hP0 h1 (Bool.eq_false_iff.2 h4) (fun e => hx (.inl e)) (Bool.eq_false_iff.2 (fun e => hx (.inr e))) hd64 hi2 hbg h hw
  · rw [if_neg h1] at hp; cases hp

theorem all_ok {w0 : World} {rb : Nat} {A : Option Addr} {c : Nat} {toks : List S62} (hrb : w0.heap.size ≤ rb) (hP0 : LaidP w0) : ∀ k, (∀ j, j ≤ k → TermOK w0 rb A c toks j) ∧ PrimOK w0 rb A c toks k
  | 0 => by
    refine ⟨fun j hj => ?_, ?_⟩
    · obtain rfl : j = 0 := by omega
      intro d p i ns x i' ns' W nv hp
      rw [termM] at hp; cases hp
    · intro d p i ns x had i' ns' W nv hp
      rw [primM] at hp; cases hp
  | k + 1 => by
    obtain ⟨h1, h2⟩ := all_ok hrb hP0 k
    have hT : TermOK w0 rb A c toks (k + 1) := term_step hrb hP0 h2 (fun j hj => h1 j (Nat.le_of_lt hj))
    refine ⟨fun j hj => ?_, prim_ok hrb hP0 (fun j hj => h1 j (Nat.le_of_lt_succ hj))⟩
    rcases Nat.lt_or_ge j (k + 1) with q | q
    · exact h1 j (Nat.le_of_lt_succ q)
    · obtain rfl : j = k + 1 := Nat.le_antisymm hj q
      exact hT
theorem allOK (w0 : World) (rb : Nat) (A : Option Addr) (c : Nat) (toks : List S62) (k : Nat) (hrb : w0.heap.size ≤ rb) (hP0 : LaidP w0) : TermOK w0 rb A c toks k := (all_ok hrb hP0 k).1 k (Nat.le_refl k)
end Go.Proofs.YtecjdjdfikcliaaGreatDoor.Pr
end
