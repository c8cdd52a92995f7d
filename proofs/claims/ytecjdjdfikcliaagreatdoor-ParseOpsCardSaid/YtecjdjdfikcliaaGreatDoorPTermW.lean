/-
  The reader's term, where a primary and lesser terms are served.
-/
import Derived.Test.YtecjdjdfikcliaaGreatDoorMPart
namespace Go.Proofs.YtecjdjdfikcliaaGreatDoor.Pr
open Go Go.Proofs.YtecjdjdfikcliaaGreatDoor
open Go.RowKit Go.Proofs.YtecjdjdfikcliaaGreatDoorW.PrintWords Go.Proofs.YtecjdjdfikcliaaGreatDoorW.PrintLast Go.Proofs.YtecjdjdfikcliaaGreatDoorW.PrintMore Go.Proofs.YtecjdjdfikcliaaGreatDoor.P

def PrimOK (w0 : World) (rb : Nat) (A : Option Addr) (c : Nat) (toks : List S62) (k : Nat) : Prop :=
  ∀ (d : Nat) (p : Int) (i : Nat) (ns : List ByteArray) (x : S36) (had : Int) (i' : Nat) (ns' : List ByteArray) (W : World) (nv : Value), primM toks k d p i ns = some (x, had, i', ns') → Rd W rb A c toks i d ns nv → Below w0.heap.size w0 W →
    Calls Tryz.prog 34 #[.pointer (some ⟨rb, 0, none⟩), .int .i64 p] W fun e w' => ∃ v nv', e = .returned (.tuple #[v, .int .i64 had]) ∧ Rd w' rb A c toks i' d ns' nv' ∧ Fr rb nv nv' W w' ∧ TermF w' (Ap W.heap.size rb nv') x v

/-- A box of the call's own that holds a term. -/
def BoxT (w : World) (g : Nat) (ok : Nat → Prop) (x : S36) : Prop := ∃ A c, w.heap[g]? = some (.cells #[.int .u8 x.f0, .string x.f1, .int .i64 x.f2, .slice A x.f3.length c] 36 (0, 0)) ∧ x.f3.length ≤ c ∧ Kd.F k36 w (fun k => ok k ∧ k ≠ g) A x.f3.length x.f3

theorem type_ne {W : World} {rb c i deep b t : Nat} {A : Option Addr} {toks : List S62} {ns : List ByteArray} {nv : Value} {cs : Array Value} (h : Rd W rb A c toks i deep ns nv) (hb : W.heap[b]? = some (.cells cs t (0, 0))) (ht : t ≠ 9) : some b ≠ nv.ownBlock := fun e => by
  obtain ⟨_, _, cs', hcs⟩ := ownsRow_lt h.names b e.symm
  rw [hb] at hcs
  injection hcs with hcs
  injection hcs with _ h2 _
  exact ht h2
theorem bltM_some {s : ByteArray} {l : List S36} {z : S36} (h : bltM s l = some z) : l.length ≤ 16 ∧ depT (mkF s l) ≤ 64 ∧ szT (mkF s l) ≤ 1000000 ∧ mkF s l = z := by
  unfold bltM at h
  split at h
  · rename_i q
    exact ⟨q.1, q.2.1, q.2.2, Option.some.inj h⟩
  · cases h
theorem F_fr {N rb g n : Nat} {nv nv' : Value} {W W' : World} {A : Option Addr} {l : List S36} (h : Kd.F k36 W (fun q => Ap N rb nv q ∧ q ≠ g) A n l) (k : Fr rb nv nv' W W') : Kd.F k36 W' (fun q => Ap N rb nv' q ∧ q ≠ g) A n l := by
  refine Kd.F_mono (Kd.F_step (Kd.F_bound h) (fun j hj hlt => k.block j hlt hj.1.1.2.1 hj.1.1.2.2)) ?_
  rintro j ⟨⟨⟨h0, h1, h2⟩, h3⟩, h4⟩
  refine ⟨⟨h0, h1, ?_⟩, h3⟩
  rcases k.nb with e | ⟨q, e, hq⟩
  · rw [e]; exact h2
  · rw [e]; intro he; injection he with he; omega

set_option maxHeartbeats 16000000 in
set_option maxRecDepth 100000 in
theorem term_step {w0 : World} {rb : Nat} {A : Option Addr} {c : Nat} {toks : List S62} (hrb : w0.heap.size ≤ rb) (hP0 : LaidP w0) {k : Nat} (hPr : PrimOK w0 rb A c toks k) (hT : ∀ j, j < k → TermOK w0 rb A c toks j) : TermOK w0 rb A c toks (k + 1) := by
  intro d p i ns xr i' ns' W nv hp h hw
  rw [termM] at hp
  cases hq : primM toks k d p i ns with
  | none => rw [hq] at hp; cases hp
  | some r =>
    obtain ⟨x0, had0, i1, ns1⟩ := r
    rw [hq, Option.bind_some] at hp
    simp only [] at hp
    have hu24 := Tryz.underlying36
    have hu89 := Tryz.underlying48
    obtain ⟨W0, hW0⟩ : ∃ W0, W.alloc (.cells #[.int .u8 0, .string ⟨#[]⟩, .int .i64 0, .slice none 0 0] 36) = W0 := ⟨_, rfl⟩
    have hb0 : Below W.heap.size W W0 := by rw [← hW0]; exact (Below.refl _ W).alloc (Nat.le_refl _) _
    have hB0 : W0.heap[W.heap.size]? = some (.cells #[.int .u8 0, .string ⟨#[]⟩, .int .i64 0, .slice none 0 0] 36 (0, 0)) := by rw [← hW0]; exact (MapKept.heap_alloc W _).1
    have HZ0 : Hid (W0.heap.size = W.heap.size + 1) := by rw [← hW0]; exact World.size_alloc _ _
    have hprim := hPr d p i ns x0 had0 i1 ns1 W0 nv hq (h.below hb0) (hw.trans (hb0.mono hw.size))
    have HPR := Lib.hid hprim
    have HP := Lib.hid hp
    have HH := Lib.hid h
    have hfew := h.few
    have hrbl := h.rbl
    clear hprim hp h hq
    go_enter Tryz.func22, Tryz.ntmps22
    go_wp2_with fail
    go_at_call 34
    refine HPR.out.mono ?_
    rintro e wP ⟨v, nvP, rfl, hRP, hFP, hx⟩
    obtain ⟨A3, c3, rfl, hc3, hF3⟩ := hx
    have hrP := hRP.rbl
    have hWP : W.heap.size < wP.heap.size := Nat.lt_of_lt_of_le (by have := HZ0.out; omega) hFP.size
    obtain ⟨w1, hw1⟩ : ∃ w1, wP.alloc (.cells #[.int .u8 x0.f0, .string x0.f1, .int .i64 x0.f2, .slice A3 x0.f3.length c3] 36) = w1 := ⟨_, rfl⟩
    have hb1 : Below wP.heap.size wP w1 := by rw [← hw1]; exact (Below.refl _ _).alloc (Nat.le_refl _) _
    have hX1 : w1.heap[wP.heap.size]? = some (.cells #[.int .u8 x0.f0, .string x0.f1, .int .i64 x0.f2, .slice A3 x0.f3.length c3] 36 (0, 0)) := by rw [← hw1]; exact (MapKept.heap_alloc wP _).1
    have hBX : BoxT w1 wP.heap.size (Ap (W.heap.size + 1) rb nvP) x0 := ⟨A3, c3, hX1, hc3, Kd.F_below (Kd.F_mono (Kd.F_bound hF3) (fun q hq => ⟨⟨by have := hq.1.1; have := HZ0.out; omega, hq.1.2.1, hq.1.2.2⟩, by have := hq.2; omega⟩)) hb1⟩
    have hR1 := hRP.below hb1
    have hF1 : Fr rb nv nvP W w1 := ((Fr.of_below hb0).trans hFP).trans (Fr.of_below hb1)
    have hZ1 := (hb1.block W.heap.size (Nat.lt_of_lt_of_le (by have := HZ0.out; omega) hFP.size)).trans ((hFP.block W.heap.size (by have := HZ0.out; omega) (by omega) (fun e => by have := (HH.out.own _ e.symm).2; omega)).trans hB0)
    have HZ1 := Lib.hid hZ1
    have HBX := Lib.hid hBX
    have HR1 := Lib.hid hR1
    have HF1 := Lib.hid hF1
    clear hZ1 hBX hR1 hF1 hX1 hF3 hRP hFP HPR
    go_wp2
    go_loopw [6] (fun v6 wr => ∃ (k' : Nat) (x : S36) (had : Int) (i1 : Nat) (ns1 : List ByteArray) (nv1 : Value), v6 = .int .i64 had ∧ Hid (k' ≤ k ∧ loopM toks k' d p x had i1 ns1 = some (xr, i', ns')) ∧ Rd wr rb A c toks i1 d ns1 nv1 ∧ Fr rb nv nv1 W wr ∧
        BoxT wr wP.heap.size (Ap (W.heap.size + 1) rb nv1) x ∧ wr.heap[W.heap.size]? = some (.cells #[.int .u8 0, .string ⟨#[]⟩, .int .i64 0, .slice none 0 0] 36 (0, 0))) (fun _ wr => toks.length - (intOf ((wr.cell? ⟨rb, 1, none⟩).getD .nilIface)).toNat)
    case atStart => exact ⟨k, x0, had0, i1, ns1, nvP, rfl, ⟨Nat.le_refl _, HP.out⟩, HR1.out, HF1.out, HBX.out, HZ1.out⟩
    case round =>
      obtain ⟨k', x, had, i2, ns2, nv2, rfl, hl, hr, hf, hbx, hzb⟩ := hrel
      obtain ⟨hk', hl⟩ := hl.out
      cases k' with
      | zero => rw [loopM] at hl; cases hl
      | succ j =>
        rw [loopM] at hl
        have hop := operator_calls hr (hP0.below (Fr.base hw HH.out hrb hf))
        rw [← tk_eq toks i2 hr.lt] at hop
        obtain ⟨O, hO⟩ : ∃ O, opAt (tk toks i2) = O := ⟨_, rfl⟩
        rw [hO] at hop hl
        obtain ⟨nm, ⟨o1, o2, o3⟩, is⟩ := O
        simp only [] at hl
        have HOP := Lib.hid hop
        have HLL := Lib.hid hl
        have HR := Lib.hid hr
        have HF := Lib.hid hf
        have HB := Lib.hid hbx
        have HZB := Lib.hid hzb
        have hi2 := hr.lt
        have hPx : wP.heap.size < wr.heap.size := by
          obtain ⟨_, _, h1, _⟩ := hbx
          exact (Array.getElem?_eq_some_iff.1 h1).1
        have hWr : W.heap.size < wr.heap.size := (Array.getElem?_eq_some_iff.1 hzb).1
        have c1r := Lib.hid (Lib.cell_of_heap hr.box 1)
        clear hop hl hr hf hbx hzb hO
        go_wp2_with fail
        go_at_call 35
        refine HOP.out.mono ?_
        rintro e wo ⟨rfl, hbo⟩
        obtain ⟨w3, hw3⟩ : ∃ w3, wo.alloc (.cells #[.int .i64 o1, .int .i64 o2, .int .i64 o3] 48) = w3 := ⟨_, rfl⟩
        have hb3 : Below wr.heap.size wr w3 := by rw [← hw3]; exact hbo.alloc hbo.size _
        have hO3 : w3.heap[wo.heap.size]? = some (.cells #[.int .i64 o1, .int .i64 o2, .int .i64 o3] 48 (0, 0)) := by rw [← hw3]; exact (MapKept.heap_alloc wo _).1
        obtain ⟨A4, c4, hX, hc4, hF4⟩ := HB.out
        have hX3 := (hb3.block _ hPx).trans hX
        have hZ3 := (hb3.block _ hWr).trans HZB.out
        have hR3 := HR.out.below hb3
        have x0' := Lib.cell_of_heap hX3 0
        have x1' := Lib.cell_of_heap hX3 1
        have x2' := Lib.cell_of_heap hX3 2
        have x3' := Lib.cell_of_heap hX3 3
        have z0 := Lib.cell_of_heap hZ3 0
        have z1 := Lib.cell_of_heap hZ3 1
        have z2 := Lib.cell_of_heap hZ3 2
        have z3 := Lib.cell_of_heap hZ3 3
        have y0 := Lib.frozen_of_heap hZ3 0
        have y1 := Lib.frozen_of_heap hZ3 1
        have y2 := Lib.frozen_of_heap hZ3 2
        have y3 := Lib.frozen_of_heap hZ3 3
        have u0 := Lib.cell_of_heap hO3 0
        have u1 := Lib.cell_of_heap hO3 1
        have u2 := Lib.cell_of_heap hO3 2
        have c1 : w3.cell? ⟨rb, 1, none⟩ = some (.int .i64 i2) := Lib.cell_of_heap hR3.box 1
        have f1 : w3.frozen? ⟨rb, 1, none⟩ = false := Lib.frozen_of_heap hR3.box 1
        have HR3 := Lib.hid hR3
        have HF4 := Lib.hid (Kd.F_below hF4 hb3)
        have HX3 := Lib.hid hX3
        have HZ3 := Lib.hid hZ3
        have HO3 := Lib.hid hO3
        clear hX hF4 hX3 hZ3 hR3 hO3 HB HZB HOP
        have hstop : ∀ (hs : is = false ∨ o1 > p ∨ had > o2), x = xr ∧ i2 = i' ∧ ns2 = ns' := fun hs => by
          have := HLL.out
          rw [if_pos hs] at this
          obtain ⟨e1, e2⟩ := Prod.mk.inj (Option.some.inj this)
          obtain ⟨e2, e3⟩ := Prod.mk.inj e2
          exact ⟨e1, e2, e3⟩
        have fin : ∀ (_ : is = false ∨ o1 > p ∨ had > o2), Hid (∃ nv', Rd ((((w3.setCell ⟨W.heap.size, 0, none⟩ (.int .u8 x.f0)).setCell ⟨W.heap.size, 1, none⟩ (.string x.f1)).setCell ⟨W.heap.size, 2, none⟩ (.int .i64 x.f2)).setCell ⟨W.heap.size, 3, none⟩ (.slice A4 x.f3.length c4)) rb A c toks i' d ns' nv' ∧
            Fr rb nv nv' W ((((w3.setCell ⟨W.heap.size, 0, none⟩ (.int .u8 x.f0)).setCell ⟨W.heap.size, 1, none⟩ (.string x.f1)).setCell ⟨W.heap.size, 2, none⟩ (.int .i64 x.f2)).setCell ⟨W.heap.size, 3, none⟩ (.slice A4 x.f3.length c4)) ∧
            TermF ((((w3.setCell ⟨W.heap.size, 0, none⟩ (.int .u8 x.f0)).setCell ⟨W.heap.size, 1, none⟩ (.string x.f1)).setCell ⟨W.heap.size, 2, none⟩ (.int .i64 x.f2)).setCell ⟨W.heap.size, 3, none⟩ (.slice A4 x.f3.length c4)) (Ap W.heap.size rb nv') xr (.agg #[.int .u8 x.f0, .string x.f1, .int .i64 x.f2, .slice A4 x.f3.length c4])) := fun hs => by
          obtain ⟨rfl, rfl, rfl⟩ := hstop hs
          have hrow := setRow4 HZ3.out (.int .u8 x.f0) (.string x.f1) (.int .i64 x.f2) (.slice A4 x.f3.length c4)
          have hF := HF.out.trans (Fr.of_below hb3)
          refine ⟨nv2, HR3.out.other W.heap.size hrbl (fun e => by
              obtain ⟨_, _, cs, hcs⟩ := ownsRow_lt HR3.out.names W.heap.size e.symm
              rw [HZ3.out] at hcs
              injection hcs with hcs
              injection hcs with _ ht _
              exact absurd ht (by decide)) hrow.2, ⟨hF.os, hF.tape, hF.output, by simpa [World.setCell] using hF.size, fun q hq h1 h2 => (hrow.2 q (by omega)).trans (hF.block q hq h1 h2), hF.nb⟩, A4, c4, rfl, hc4, Kd.F_mono (Kd.F_step HF4.out (fun q hq _ => hrow.2 q (by have := hq.1.1; omega))) (fun q hq => ⟨by have := hq.1.1; omega, hq.1.2.1, hq.1.2.2⟩)⟩
        have HFIN := Lib.hid fin
        clear fin hstop
        cases is with
        | false =>
          have hfin := HFIN.out (.inl rfl)
          have hrow := Lib.hid (setRow4 HZ3.out (.int .u8 x.f0) (.string x.f1) (.int .i64 x.f2) (.slice A4 x.f3.length c4)).1
          go_wp2
          refine bodyPost_ret (results_cell_row rfl _ _ W.heap.size 36 _ (0, 0) _ rfl hrow.out hu24 rfl (by kernel_rfl)) rfl ?_
          obtain ⟨nv', q1, q2, q3⟩ := hfin.out
          exact ⟨_, nv', rfl, q1, q2, q3⟩
        | true =>
          by_cases hop1 : o1 > p
          · have kd1 : decide (o1 > p) = true := decide_eq_true hop1
            have hop1' := Lib.hid hop1
            clear hop1
            have hfin := HFIN.out (.inr (.inl hop1'.out))
            have hrow := Lib.hid (setRow4 HZ3.out (.int .u8 x.f0) (.string x.f1) (.int .i64 x.f2) (.slice A4 x.f3.length c4)).1
            go_wp2
            refine bodyPost_ret (results_cell_row rfl _ _ W.heap.size 36 _ (0, 0) _ rfl hrow.out hu24 rfl (by kernel_rfl)) rfl ?_
            obtain ⟨nv', q1, q2, q3⟩ := hfin.out
            exact ⟨_, nv', rfl, q1, q2, q3⟩
          have kd1 : decide (o1 > p) = false := decide_eq_false hop1
          by_cases hop2 : had > o2
          · have kd2 : decide (had > o2) = true := decide_eq_true hop2
            have hop2' := Lib.hid hop2
            clear hop1 hop2
            have hfin := HFIN.out (.inr (.inr hop2'.out))
            have hrow := Lib.hid (setRow4 HZ3.out (.int .u8 x.f0) (.string x.f1) (.int .i64 x.f2) (.slice A4 x.f3.length c4)).1
            go_wp2
            refine bodyPost_ret (results_cell_row rfl _ _ W.heap.size 36 _ (0, 0) _ rfl hrow.out hu24 rfl (by kernel_rfl)) rfl ?_
            obtain ⟨nv', q1, q2, q3⟩ := hfin.out
            exact ⟨_, nv', rfl, q1, q2, q3⟩
          have kd2 : decide (had > o2) = false := decide_eq_false hop2
          have hgo := HLL.out
          rw [if_neg (fun h => h.elim (fun h => by cases h) (fun h => h.elim hop1 hop2))] at hgo
          by_cases hlen : i2 + 1 < toks.length
          rotate_left
          · rw [if_pos hlen] at hgo; cases hgo
          rw [if_neg (fun h => h hlen)] at hgo
          cases ht : termM toks j d o3 (i2 + 1) ns2 with
          | none => rw [ht] at hgo; cases hgo
          | some r2 =>
            obtain ⟨y, i3, ns3⟩ := r2
            rw [ht, Option.bind_some] at hgo
            simp only [] at hgo
            by_cases hle : i3 ≤ i2
            · rw [if_pos hle] at hgo; cases hgo
            rw [if_neg hle] at hgo
            cases hbt : bltM nm [x, y] with
            | none => rw [hbt] at hgo; cases hgo
            | some z =>
              rw [hbt, Option.bind_some] at hgo
              obtain ⟨w4, hw4⟩ : ∃ w4, w3.setCell ⟨rb, 1, none⟩ (.int .i64 ((i2 + 1 : Nat) : Int)) = w4 := ⟨_, rfl⟩
              have hw4' : w3.setCell ⟨rb, 1, none⟩ (.int .i64 ((i2 : Int) + 1)) = w4 := by rw [← hw4]; rfl
              have hR4 := HR3.out.setI (i2 + 1) hlen
              rw [hw4] at hR4
              have hF4' : Fr rb nv nv2 W w4 := (HF.out.trans (Fr.of_below hb3)).trans (by rw [← hw4]; exact Fr.setBox _ _ _)
              have hoth : ∀ q, q ≠ rb → w4.heap[q]? = w3.heap[q]? := fun q hq => by rw [← hw4]; exact Below.heap_setCell _ _ _ _ hq
              have hsz4 : w3.heap.size = w4.heap.size := by rw [← hw4]; simp [World.setCell]
              have HTC := Lib.hid (hT j (by omega) d o3 (i2 + 1) ns2 y i3 ns3 w4.drew nv2 ht (hR4.below ((Below.refl _ w4).drew)) ((Fr.base hw HH.out hrb hF4').trans (((Below.refl _ w4).drew).mono (Fr.base hw HH.out hrb hF4').size)))
              have HGO := Lib.hid hgo
              have HBT := Lib.hid hbt
              have HF4' := Lib.hid hF4'
              have HR4 := Lib.hid hR4
              have HLE := Lib.hid hle
              clear hgo hbt ht hop1 hop2 hR4 hF4' hle hw4
              have hX4 := (hoth wP.heap.size (by have := HX3.out; omega)).trans HX3.out
              have hO4 := (hoth wo.heap.size (by have := hbo.size; have := HR.out.rbl; omega)).trans HO3.out
              have hZ4 := (hoth W.heap.size (by omega)).trans HZ3.out
              have p0 := Lib.cell_of_heap hX4 0
              have p1 := Lib.cell_of_heap hX4 1
              have p2 := Lib.cell_of_heap hX4 2
              have p3 := Lib.cell_of_heap hX4 3
              have v0 := Lib.cell_of_heap hO4 0
              have v2 := Lib.cell_of_heap hO4 2
              have HX4 := Lib.hid hX4
              have HO4 := Lib.hid hO4
              have HZ4 := Lib.hid hZ4
              clear hX4 hO4 hZ4 x0' x1' x2' x3' z0 z1 z2 z3 y0 y1 y2 y3
              have n1 : ¬ wP.heap.size = wo.heap.size := by have := hbo.size; omega
              have n2 : ¬ wo.heap.size = wP.heap.size := fun e => n1 e.symm
              go_wp2_with fail
              go_region_law (first
                | (go_simp; go_at_call 22
                   refine HTC.out.mono ?_
                   rintro e w5 ⟨vy, nv3, rfl, h5, f5, hy⟩
                   obtain ⟨A5, c5, rfl, hc5, hF5⟩ := hy
                   have hX5 := (f5.block wP.heap.size (Array.getElem?_eq_some_iff.1 HX4.out).1 (by omega) (type_ne HR4.out HX4.out (by decide))).trans HX4.out
                   have hO5 := (f5.block wo.heap.size (Array.getElem?_eq_some_iff.1 HO4.out).1 (by have := HR.out.rbl; have := hbo.size; omega) (type_ne HR4.out HO4.out (by decide))).trans HO4.out
                   have hZ5 := (f5.block W.heap.size (Array.getElem?_eq_some_iff.1 HZ4.out).1 (by omega) (type_ne HR4.out HZ4.out (by decide))).trans HZ4.out
                   have r0 := Lib.cell_of_heap hX5 0
                   have r1 := Lib.cell_of_heap hX5 1
                   have r2 := Lib.cell_of_heap hX5 2
                   have r3 := Lib.cell_of_heap hX5 3
                   have s0 := Lib.cell_of_heap hO5 0
                   have s2 := Lib.cell_of_heap hO5 2
                   have s0' := fun o : Obj => Lib.cell?_alloc_some (W := w5) o s0
                   have hlit : ∀ (rbv : Nat), Calls Tryz.prog 36 #[.pointer (some ⟨rb, 0, none⟩), .string nm, .slice (some ⟨w5.heap.size, 0, none⟩) 2 2] (w5.alloc (.cells (cellsOf [(x, A4, c4), (y, A5, c5)]).toArray 36)) fun e w' => (∃ v, e = .returned v ∧ TermF w' (fun q => Ap (W.heap.size + 1) rb nv3 q ∧ q ≠ wP.heap.size) z v) ∧ Below w5.heap.size w5 w' := by
                     intro _
                     obtain ⟨e1, e2, e3, e4⟩ := bltM_some HBT.out
                     have f35 : Fr rb nv2 nv3 w3 w5 := (show Fr rb nv2 nv2 w3 w4 from by rw [← hw4']; exact Fr.setBox _ _ _).trans ((Fr.of_below ((Below.refl _ w4).drew)).trans f5)
                     have hFx := F_fr HF4.out f35
                     have hz45 : w4.heap.size ≤ w5.heap.size := f5.size
                     have hP4 : wP.heap.size < w4.heap.size := (Array.getElem?_eq_some_iff.1 HX4.out).1
                     have hFy : Kd.F k36 w5 (fun q => Ap (W.heap.size + 1) rb nv3 q ∧ q ≠ wP.heap.size) A5 y.f3.length y.f3 := Kd.F_mono hF5 (fun q hq => by
                       have h1 : w4.heap.size ≤ q := hq.1
                       exact ⟨⟨by omega, hq.2.1, hq.2.2⟩, by omega⟩)
                     have hlf := lit_F w5 (fun q => Ap (W.heap.size + 1) rb nv3 q ∧ q ≠ wP.heap.size) [(x, A4, c4), (y, A5, c5)] (by simp) (by intro q hq; simp at hq; rcases hq with rfl | rfl; exact ⟨hc4, hFx⟩; exact ⟨hc5, hFy⟩)
                     have hbc := built_calls rb nm (some ⟨w5.heap.size, 0, none⟩) 2 [x, y] _ hlf e1 e2 e3
                     rw [e4] at hbc
                     have hal : Below w5.heap.size w5 (w5.alloc (.cells (cellsOf [(x, A4, c4), (y, A5, c5)]).toArray 36)) := (Below.refl _ w5).alloc (Nat.le_refl _) _
                     refine hbc.mono ?_
                     rintro e w' ⟨⟨v, rfl, hv⟩, hb⟩
                     refine ⟨⟨v, rfl, hv.mono (fun q hq => ?_)⟩, hal.trans (hb.mono hal.size)⟩
                     have hP5 : wP.heap.size < w5.heap.size := (Array.getElem?_eq_some_iff.1 hX5).1
                     have hr5 := h5.rbl
                     have big : w5.heap.size ≤ q → Ap (W.heap.size + 1) rb nv3 q ∧ q ≠ wP.heap.size := fun hq => ⟨⟨by omega, by omega, fun e => by have := (h5.own q e.symm).2; omega⟩, by omega⟩
                     rcases hq with ⟨h1 | h1, _⟩ | h1
                     · exact h1.1
                     · exact big h1
                     · exact big (Nat.le_trans hal.size h1)
                   have HLIT := Lib.hid hlit
                   clear hlit)
                | (go_simp; go_at_call 36
                   refine (HLIT.out 0).mono ?_
                   rintro e w6 ⟨⟨vz, rfl, hz⟩, hb6⟩
                   obtain ⟨A6, c6, rfl, hc6, hF6⟩ := hz
                   have hX6 := (hb6.block wP.heap.size (Array.getElem?_eq_some_iff.1 hX5).1).trans hX5
                   have hO6 := (hb6.block wo.heap.size (Array.getElem?_eq_some_iff.1 hO5).1).trans hO5
                   have t0 := Lib.cell_of_heap hX6 0
                   have t1 := Lib.cell_of_heap hX6 1
                   have t2 := Lib.cell_of_heap hX6 2
                   have t3 := Lib.cell_of_heap hX6 3
                   have g0 := Lib.frozen_of_heap hX6 0
                   have g1 := Lib.frozen_of_heap hX6 1
                   have g2 := Lib.frozen_of_heap hX6 2
                   have g3 := Lib.frozen_of_heap hX6 3
                   have q0 := Lib.cell_of_heap hO6 0))
              all_goals
                have hrow := setRow4 hX6 (.int .u8 z.f0) (.string z.f1) (.int .i64 z.f2) (.slice A6 z.f3.length c6)
                have hR7 := (h5.below hb6).other wP.heap.size hrP (type_ne (h5.below hb6) hX6 (by decide)) hrow.2
                have hF6' := ((HF4'.out.trans (Fr.of_below ((Below.refl _ w4).drew))).trans f5).trans (Fr.of_below hb6)
                have hZ7 := (hrow.2 W.heap.size (by omega)).trans ((hb6.block W.heap.size (Array.getElem?_eq_some_iff.1 hZ5).1).trans hZ5)
                have HR7 := Lib.hid hR7
                have HF7 : Hid (Fr rb nv nv3 W ((((w6.setCell ⟨wP.heap.size, 0, none⟩ (.int .u8 z.f0)).setCell ⟨wP.heap.size, 1, none⟩ (.string z.f1)).setCell ⟨wP.heap.size, 2, none⟩ (.int .i64 z.f2)).setCell ⟨wP.heap.size, 3, none⟩ (.slice A6 z.f3.length c6))) :=
                  ⟨hF6'.os, hF6'.tape, hF6'.output, by simpa [World.setCell] using hF6'.size, fun q hq h1 h2 => (hrow.2 q (by omega)).trans (hF6'.block q hq h1 h2), hF6'.nb⟩
                have HB7 : Hid (BoxT ((((w6.setCell ⟨wP.heap.size, 0, none⟩ (.int .u8 z.f0)).setCell ⟨wP.heap.size, 1, none⟩ (.string z.f1)).setCell ⟨wP.heap.size, 2, none⟩ (.int .i64 z.f2)).setCell ⟨wP.heap.size, 3, none⟩ (.slice A6 z.f3.length c6)) wP.heap.size (Ap (W.heap.size + 1) rb nv3) z) :=
                  ⟨A6, c6, hrow.1, hc6, Kd.F_mono (Kd.F_step hF6 (fun q hq _ => hrow.2 q hq.2)) (fun q hq => ⟨hq.1, hq.2⟩)⟩
                have HZ7 := Lib.hid hZ7
                have C7 := Lib.hid (Lib.cell_of_heap hR7.box 1)
                clear hrow hR7 hF6' hZ7
                go_wp2
                refine ⟨?_, ?_⟩
                · first
                    | exact ⟨_, _, _, _, _, _, _, _, _, _, _, _, _, _, _, _, _, _, _, _, _, _, _, _, _, _, _, _, _, _, _, _, _, _, _, _, _, _, _, _, _, _, _, ⟨j, z, o1, i3, ns3, nv3, rfl, ⟨by omega, HGO.out⟩, HR7.out, HF7.out, HB7.out, HZ7.out⟩, rfl⟩
                    | exact ⟨_, _, _, _, _, _, _, _, _, _, _, _, _, _, _, _, _, _, _, _, _, _, _, _, _, _, _, _, _, _, _, _, _, _, _, _, _, _, _, _, _, _, _, _, ⟨j, z, o1, i3, ns3, nv3, rfl, ⟨by omega, HGO.out⟩, HR7.out, HF7.out, HB7.out, HZ7.out⟩, rfl⟩
                    | (repeat (apply Exists.intro)
                       exact ⟨⟨j, z, o1, i3, ns3, nv3, rfl, ⟨by omega, HGO.out⟩, HR7.out, HF7.out, HB7.out, HZ7.out⟩, rfl⟩)
                · rw [C7.out, c1r.out]
                  have := HLE.out
                  simp [intOf]
                  omega
end Go.Proofs.YtecjdjdfikcliaaGreatDoor.Pr
