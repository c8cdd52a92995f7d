/- Several small texts of this claim in one. -/
import Derived.Test.YtecjdjdfikcliaaGreatDoorPRead2
import Derived.Test.YtecjdjdfikcliaaGreatDoorPDepth2
import Derived.Test.YtecjdjdfikcliaaGreatDoorMDepth
section
/-
  The reader's built.
-/
namespace Go.Proofs.YtecjdjdfikcliaaGreatDoor.Pr
open Go Go.Proofs.YtecjdjdfikcliaaGreatDoor
open Go.RowKit Go.Proofs.YtecjdjdfikcliaaGreatDoorW.PrintWords Go.Proofs.YtecjdjdfikcliaaGreatDoorW.PrintLast Go.Proofs.YtecjdjdfikcliaaGreatDoorW.PrintMore Go.Proofs.YtecjdjdfikcliaaGreatDoor.P

set_option maxHeartbeats 4000000 in
set_option maxRecDepth 100000 in
theorem built_calls {W : World} (rb : Nat) (s : ByteArray) (A : Option Addr) (c : Nat) (l : List S36) (ok : Nat → Prop) (hF : Kd.F k36 W ok A l.length l) (h16 : l.length ≤ 16) (hd : depT (mkF s l) ≤ 64) (hsz : szT (mkF s l) ≤ 1000000) :
    Calls Tryz.prog 36 #[.pointer (some ⟨rb, 0, none⟩), .string s, .slice A l.length c] W fun e w' => (∃ v, e = .returned v ∧ TermF w' (fun k => (ok k ∧ k < W.heap.size) ∨ W.heap.size ≤ k) (mkF s l) v) ∧ Below W.heap.size W w' := by
  have hu24 := Tryz.underlying36
  obtain ⟨W0, hW0⟩ : ∃ W0, W.alloc (.cells #[.int .u8 0, .string ⟨#[]⟩, .int .i64 0, .slice none 0 0] 36) = W0 := ⟨_, rfl⟩
  have hb0 : Below W.heap.size W W0 := by rw [← hW0]; exact (Below.refl _ W).alloc (Nat.le_refl _) _
  have hT0 : W0.heap[W.heap.size]? = some (.cells #[.int .u8 0, .string ⟨#[]⟩, .int .i64 0, .slice none 0 0] 36 (0, 0)) := by rw [← hW0]; exact (MapKept.heap_alloc W _).1
  have HZ0 : Hid (W0.heap.size = W.heap.size + 1) := by rw [← hW0]; exact World.size_alloc _ _
  have hcall := F_F s A c l W0 _ (Kd.F_below (Kd.F_bound hF) hb0) (Nat.le_trans h16 (by decide))
  have HC := Lib.hid hcall
  clear hcall hF
  go_enter Tryz.func36, Tryz.ntmps36
  go_wp2_with fail
  go_at_call 15
  refine HC.out.mono ?_
  rintro e w1 ⟨⟨v1, rfl, A1, c1, rfl, hc1, hF1⟩, hb1⟩
  obtain ⟨w2, hw2⟩ : ∃ w2, w1.alloc (.cells #[.int .u8 (mkF s l).f0, .string (mkF s l).f1, .int .i64 (mkF s l).f2, .slice A1 (mkF s l).f3.length c1] 36) = w2 := ⟨_, rfl⟩
  have hb2 : Below w1.heap.size w1 w2 := by rw [← hw2]; exact (Below.refl _ _).alloc (Nat.le_refl _) _
  have hT2 : w2.heap[w1.heap.size]? = some (.cells #[.int .u8 (mkF s l).f0, .string (mkF s l).f1, .int .i64 (mkF s l).f2, .slice A1 (mkF s l).f3.length c1] 36 (0, 0)) := by rw [← hw2]; exact (MapKept.heap_alloc w1 _).1
  have hF2 := Kd.F_below hF1 hb2
  have hdp := Depth_calls (mkF s l) _ w2 ⟨A1, c1, rfl, hc1, Kd.F_now hF2⟩ hsz
  have HD := Lib.hid hdp
  have hd64 : decide ((depT (mkF s l) : Int) > 64) = false := decide_eq_false (by omega)
  have h16' : decide ((l.length : Int) > 16) = false := decide_eq_false (by omega)
  obtain ⟨x, hx⟩ : ∃ x, mkF s l = x := ⟨_, rfl⟩
  rw [hx] at hT2 hF1 hF2 HD hd64 hc1 hw2 ⊢
  obtain ⟨D, hD⟩ : ∃ D, depT x = D := ⟨_, rfl⟩
  rw [hD] at HD hd64
  have HX := Lib.hid hx
  have HF2 := Lib.hid hF2
  have HT2 := Lib.hid hT2
  have a0 := Lib.cell_of_heap hT2 0
  have a1 := Lib.cell_of_heap hT2 1
  have a2 := Lib.cell_of_heap hT2 2
  have a3 := Lib.cell_of_heap hT2 3
  clear hF1 hF2 hdp hx hD hd hsz HC hT2
  go_wp2_with fail
  go_at_call 61
  refine HD.out.mono ?_
  rintro e w3 ⟨rfl, hb3⟩
  have hl2 : w1.heap.size < w2.heap.size := (Array.getElem?_eq_some_iff.1 HT2.out).1
  have hT3 := (hb3.block _ hl2).trans HT2.out
  have h01 : Below W.heap.size W w1 := hb0.trans (hb1.mono hb0.size)
  have h03 : Below W.heap.size W w3 := (h01.trans (hb2.mono h01.size)).trans (hb3.mono (Nat.le_trans h01.size hb2.size))
  have hR3 : w3.heap[W.heap.size]? = some (.cells #[.int .u8 0, .string ⟨#[]⟩, .int .i64 0, .slice none 0 0] 36 (0, 0)) := by
    have q0 : W.heap.size < W0.heap.size := by have := HZ0.out; omega
    have q1 : W.heap.size < w1.heap.size := Nat.lt_of_lt_of_le q0 hb1.size
    exact (hb3.block _ (Nat.lt_of_lt_of_le q1 hb2.size)).trans ((hb2.block _ q1).trans ((hb1.block _ q0).trans hT0))
  have HF3 := Lib.hid (Kd.F_below HF2.out hb3)
  clear HD HF2 a0 a1 a2 a3 hT0 hW0
  have a0 := Lib.cell_of_heap hT3 0
  have a1 := Lib.cell_of_heap hT3 1
  have a2 := Lib.cell_of_heap hT3 2
  have a3 := Lib.cell_of_heap hT3 3
  have z0 := Lib.cell_of_heap hR3 0
  have z1 := Lib.cell_of_heap hR3 1
  have z2 := Lib.cell_of_heap hR3 2
  have z3 := Lib.cell_of_heap hR3 3
  have y0 := Lib.frozen_of_heap hR3 0
  have y1 := Lib.frozen_of_heap hR3 1
  have y2 := Lib.frozen_of_heap hR3 2
  have y3 := Lib.frozen_of_heap hR3 3
  go_wp2
  have hrow := setRow4 hR3 (.int .u8 x.f0) (.string x.f1) (.int .i64 x.f2) (.slice A1 x.f3.length c1)
  refine bodyPost_ret (results_cell_row rfl _ _ W.heap.size 36 _ (0, 0) _ rfl hrow.1 hu24 rfl (by kernel_rfl)) rfl ?_
  have hterm : TermF ((((w3.setCell ⟨W.heap.size, 0, none⟩ (.int .u8 x.f0)).setCell ⟨W.heap.size, 1, none⟩ (.string x.f1)).setCell ⟨W.heap.size, 2, none⟩ (.int .i64 x.f2)).setCell ⟨W.heap.size, 3, none⟩ (.slice A1 x.f3.length c1)) (fun k => (ok k ∧ k < W.heap.size) ∨ W.heap.size ≤ k) x (.agg #[.int .u8 x.f0, .string x.f1, .int .i64 x.f2, .slice A1 x.f3.length c1]) := by
    refine ⟨A1, c1, rfl, hc1, Kd.F_mono (Kd.F_step HF3.out (fun k hk _ => hrow.2 k ?_)) (fun k hk => ?_)⟩
    · rcases hk with ⟨⟨_, h1⟩, _⟩ | h1
      · omega
      · have := HZ0.out; omega
    · rcases hk with ⟨h1, _⟩ | h1
      · exact .inl h1
      · exact .inr (by have := HZ0.out; omega)
  refine ⟨⟨_, rfl, by rw [HX.out]; exact hterm⟩, ?_⟩
  exact (((h03.setCell (Nat.le_refl _) _).setCell (Nat.le_refl _) _).setCell (Nat.le_refl _) _).setCell (Nat.le_refl _) _
end Go.Proofs.YtecjdjdfikcliaaGreatDoor.Pr
end
section
/-
  The document's Same: two terms are one.
-/
namespace Go.Proofs.YtecjdjdfikcliaaGreatDoor.Pr
open Go Go.Proofs.YtecjdjdfikcliaaGreatDoor
open Go.RowKit Go.Proofs.YtecjdjdfikcliaaGreatDoorW.PrintWords Go.Proofs.YtecjdjdfikcliaaGreatDoorW.PrintLast Go.Proofs.YtecjdjdfikcliaaGreatDoorW.PrintMore Go.Proofs.YtecjdjdfikcliaaGreatDoor.P

mutual
/-- Two terms are one. -/
def sameT : S36 → S36 → Bool
  | ⟨a0, a1, a2, a3⟩, ⟨b0, b1, b2, b3⟩ => decide (a0 = b0) && (decide (bl a1 = bl b1) && (decide (a2 = b2) && sameL a3 b3))
def sameL : List S36 → List S36 → Bool
  | [], [] => true
  | [], _ :: _ => false
  | _ :: _, [] => false
  | x :: l, y :: m => sameT x y && sameL l m
end
theorem sameT_eq (x y : S36) : sameT x y = (decide (x.f0 = y.f0) && (decide (bl x.f1 = bl y.f1) && (decide (x.f2 = y.f2) && sameL x.f3 y.f3))) := by
  cases x; cases y; simp only [sameT]
mutual
theorem sameT_iff : ∀ x y : S36, sameT x y = true ↔ x = y
  | ⟨a0, a1, a2, a3⟩, ⟨b0, b1, b2, b3⟩ => by
    have := sameL_iff a3 b3
    simp only [sameT, Bool.and_eq_true, decide_eq_true_iff, this, P.S36.mk.injEq]
    constructor
    · rintro ⟨h0, h1, h2, h3⟩
      exact ⟨h0, bl_ext h1, h2, h3⟩
    · rintro ⟨h0, h1, h2, h3⟩
      exact ⟨h0, by rw [h1], h2, h3⟩
theorem sameL_iff : ∀ l m : List S36, sameL l m = true ↔ l = m
  | [], [] => by simp [sameL]
  | [], _ :: _ => by simp [sameL]
  | _ :: _, [] => by simp [sameL]
  | x :: l, y :: m => by
    have h1 := sameT_iff x y
    have h2 := sameL_iff l m
    simp only [sameL, Bool.and_eq_true, h1, h2, List.cons.injEq]
end

def SameOK (n : Nat) : Prop := ∀ (x y : S36) (v u : Value) (w : World), szT x ≤ n → TermV w x v → TermV w y u →
  Calls Tryz.prog 13 #[v, u] w fun e w' => e = .returned (.bool (sameT x y)) ∧ Below w.heap.size w w'

theorem same_prefix (xs ys : List S36) (i : Nat) (hx : i < xs.length) (hy : i < ys.length) (h : xs.take i = ys.take i) (b : Bool) (hb : sameT xs[i] ys[i] = b) :
    (b = true → xs.take (i + 1) = ys.take (i + 1)) ∧ (b = false → sameL xs ys = false) := by
  constructor
  · rintro rfl
    rw [List.take_succ_eq_append_getElem hx, List.take_succ_eq_append_getElem hy, h, (sameT_iff _ _).1 hb]
  · rintro rfl
    cases hs : sameL xs ys with
    | false => rfl
    | true =>
      have e := (sameL_iff _ _).1 hs
      subst e
      rw [(sameT_iff _ _).2 rfl] at hb
      cases hb

theorem strEqS (s t : ByteArray) : (s.toList == t.toList) = decide (bl s = bl t) := by
  rw [ByteArray.toList_eq, ByteArray.toList_eq, Bool.eq_iff_iff]; simp

set_option maxHeartbeats 4000000 in
set_option maxRecDepth 100000 in
theorem All_calls {n : Nat} (hn : SameOK n) (xs ys : List S36) (A B : Option Addr) (c d : Nat) (w : World) (hA : Kd.C k36 w A xs.length xs) (hB : Kd.C k36 w B ys.length ys) (hs : szL xs ≤ n) (hlen : n ≤ 1000000) :
    Calls Tryz.prog 28 #[.slice A xs.length c, .slice B ys.length d] w fun e w' => e = .returned (.bool (sameL xs ys)) ∧ Below w.heap.size w w' := by
  have hu24 := Tryz.underlying36
  by_cases hl : xs.length = ys.length
  · have hll : (((xs.length : Int) != (ys.length : Int))) = false := by simp [hl]
    have hxl := szL_len xs
    have HL := Lib.hid hl
    clear hl
    go_enter Tryz.func28, Tryz.ntmps28
    go_wp2
    go_loopw [5] (fun p wr => ∃ i : Nat, p = .int .i64 i ∧ i ≤ xs.length ∧ xs.take i = ys.take i ∧ Below w.heap.size w wr) (fun p _ => xs.length - (intOf p).toNat)
    case atStart => exact ⟨0, rfl, Nat.zero_le _, rfl, Below.refl _ _⟩
    case round =>
      obtain ⟨i, rfl, hi, hpre, hbw⟩ := hrel
      by_cases hlt : i < xs.length
      · have hdd : decide ((i : Int) < (xs.length : Int)) = true := by simp; omega
        have hlt2 : i < ys.length := by have := HL.out; omega
        obtain ⟨ad, A3, c3, rfl, e0, e1, e2, e3, hc3, hC3⟩ := at_T36 (Kd.C_below hA hbw) i (by omega) (by omega)
        obtain ⟨bd, B3, d3, rfl, g0, g1, g2, g3, hd3, hD3⟩ := at_T36 (Kd.C_below hB hbw) i (by omega) (by omega)
        rw [rd_at xs i hlt] at e0 e1 e2 e3 hc3 hC3
        rw [rd_at ys i hlt2] at g0 g1 g2 g3 hd3 hD3
        rw [Int.toNat_natCast] at e0 e1 e2 e3 g0 g1 g2 g3
        have hsz : szT xs[i] ≤ n := Nat.le_trans (szT_mem xs _ (List.getElem_mem hlt)) hs
        have HS : Hid (∀ W', Below wr.heap.size wr W' → W'.cell? (ad.add (i * 4)) = some (.int .u8 xs[i].f0) ∧ W'.cell? ⟨(ad.add (i * 4)).block, (ad.add (i * 4)).off + 1, none⟩ = some (.string xs[i].f1) ∧ W'.cell? ⟨(ad.add (i * 4)).block, (ad.add (i * 4)).off + 2, none⟩ = some (.int .i64 xs[i].f2) ∧ W'.cell? ⟨(ad.add (i * 4)).block, (ad.add (i * 4)).off + 3, none⟩ = some (.slice A3 xs[i].f3.length c3) ∧
            W'.cell? (bd.add (i * 4)) = some (.int .u8 ys[i].f0) ∧ W'.cell? ⟨(bd.add (i * 4)).block, (bd.add (i * 4)).off + 1, none⟩ = some (.string ys[i].f1) ∧ W'.cell? ⟨(bd.add (i * 4)).block, (bd.add (i * 4)).off + 2, none⟩ = some (.int .i64 ys[i].f2) ∧ W'.cell? ⟨(bd.add (i * 4)).block, (bd.add (i * 4)).off + 3, none⟩ = some (.slice B3 ys[i].f3.length d3)) :=
          fun W' hW => ⟨(hW.cell (World.block_lt_of_cell? wr _ e0)).trans e0, (hW.cell (World.block_lt_of_cell? wr _ e1)).trans e1, (hW.cell (World.block_lt_of_cell? wr _ e2)).trans e2, (hW.cell (World.block_lt_of_cell? wr _ e3)).trans e3, (hW.cell (World.block_lt_of_cell? wr _ g0)).trans g0, (hW.cell (World.block_lt_of_cell? wr _ g1)).trans g1, (hW.cell (World.block_lt_of_cell? wr _ g2)).trans g2, (hW.cell (World.block_lt_of_cell? wr _ g3)).trans g3⟩
        have hV : TermV wr xs[i] (.agg #[.int .u8 xs[i].f0, .string xs[i].f1, .int .i64 xs[i].f2, .slice A3 xs[i].f3.length c3]) := ⟨A3, c3, rfl, hc3, hC3⟩
        have hU : TermV wr ys[i] (.agg #[.int .u8 ys[i].f0, .string ys[i].f1, .int .i64 ys[i].f2, .slice B3 ys[i].f3.length d3]) := ⟨B3, d3, rfl, hd3, hD3⟩
        have hbd : Below wr.heap.size wr wr.drew := (Below.refl _ wr).drew
        have hcall := hn xs[i] ys[i] _ _ _ hsz (hV.below hbd) (hU.below hbd)
        obtain ⟨b, hbe⟩ : ∃ b, sameT xs[i] ys[i] = b := ⟨_, rfl⟩
        obtain ⟨p1, p2⟩ := same_prefix xs ys i hlt hlt2 hpre b hbe
        rw [hbe] at hcall
        have HC := Lib.hid hcall
        have HP1 := Lib.hid p1
        have HP2 := Lib.hid p2
        clear hcall p1 p2 hbe hV hU hC3 hD3 hpre hsz e0 e1 e2 e3 g0 g1 g2 g3
        cases b with
        | true =>
          have hp := HP1.out rfl
          go_wp2_with fail
          go_region_held (fun W' => W'.cell? (ad.add (i * 4)) = some (.int .u8 xs[i].f0) ∧ W'.cell? ⟨(ad.add (i * 4)).block, (ad.add (i * 4)).off + 1, none⟩ = some (.string xs[i].f1) ∧ W'.cell? ⟨(ad.add (i * 4)).block, (ad.add (i * 4)).off + 2, none⟩ = some (.int .i64 xs[i].f2) ∧ W'.cell? ⟨(ad.add (i * 4)).block, (ad.add (i * 4)).off + 3, none⟩ = some (.slice A3 xs[i].f3.length c3) ∧
            W'.cell? (bd.add (i * 4)) = some (.int .u8 ys[i].f0) ∧ W'.cell? ⟨(bd.add (i * 4)).block, (bd.add (i * 4)).off + 1, none⟩ = some (.string ys[i].f1) ∧ W'.cell? ⟨(bd.add (i * 4)).block, (bd.add (i * 4)).off + 2, none⟩ = some (.int .i64 ys[i].f2) ∧ W'.cell? ⟨(bd.add (i * 4)).block, (bd.add (i * 4)).off + 3, none⟩ = some (.slice B3 ys[i].f3.length d3))
            (first | exact HS.out _ hbd | exact HS.out _ hb4)
            (first
              | (go_at_call 13; refine HC.out.mono ?_; rintro e w3 ⟨rfl, hb3⟩; have hb4 : Below wr.heap.size wr w3 := hbd.trans (hb3.mono hbd.size)))
          all_goals go_wp2
          exact ⟨⟨i + 1, by simp, by omega, hp, hbw.trans (hb4.mono hbw.size)⟩, by simp [intOf]; omega⟩
        | false =>
          have hp := Lib.hid (HP2.out rfl)
          go_wp2_with fail
          go_region_held (fun W' => W'.cell? (ad.add (i * 4)) = some (.int .u8 xs[i].f0) ∧ W'.cell? ⟨(ad.add (i * 4)).block, (ad.add (i * 4)).off + 1, none⟩ = some (.string xs[i].f1) ∧ W'.cell? ⟨(ad.add (i * 4)).block, (ad.add (i * 4)).off + 2, none⟩ = some (.int .i64 xs[i].f2) ∧ W'.cell? ⟨(ad.add (i * 4)).block, (ad.add (i * 4)).off + 3, none⟩ = some (.slice A3 xs[i].f3.length c3) ∧
            W'.cell? (bd.add (i * 4)) = some (.int .u8 ys[i].f0) ∧ W'.cell? ⟨(bd.add (i * 4)).block, (bd.add (i * 4)).off + 1, none⟩ = some (.string ys[i].f1) ∧ W'.cell? ⟨(bd.add (i * 4)).block, (bd.add (i * 4)).off + 2, none⟩ = some (.int .i64 ys[i].f2) ∧ W'.cell? ⟨(bd.add (i * 4)).block, (bd.add (i * 4)).off + 3, none⟩ = some (.slice B3 ys[i].f3.length d3))
            (first | exact HS.out _ hbd | exact HS.out _ hb4)
            (first
              | (go_at_call 13; refine HC.out.mono ?_; rintro e w3 ⟨rfl, hb3⟩; have hb4 : Below wr.heap.size wr w3 := hbd.trans (hb3.mono hbd.size)))
          all_goals go_wp2
          go_ret
          exact ⟨by rw [hp.out]; rfl, hbw.trans (hb4.mono hbw.size)⟩
      · have hdd : decide ((i : Int) < (xs.length : Int)) = false := by simp; omega
        rw [List.take_of_length_le (by omega), List.take_of_length_le (by have := HL.out; omega)] at hpre
        have hs := Lib.hid ((sameL_iff _ _).2 hpre)
        clear hpre
        go_wp2
        go_ret
        exact ⟨by rw [hs.out]; rfl, hbw⟩
  · have hll : (((xs.length : Int) != (ys.length : Int))) = true := by simp; omega
    have hs : Hid (sameL xs ys = false) := by
      show _ = _
      cases hs : sameL xs ys with
      | false => rfl
      | true => exact absurd (by rw [(sameL_iff _ _).1 hs]) hl
    clear hl
    go_enter Tryz.func28, Tryz.ntmps28
    go_wp2
    go_ret
    exact ⟨by rw [hs.out]; rfl, Below.refl _ _⟩

set_option maxHeartbeats 4000000 in
set_option maxRecDepth 100000 in
theorem Same_step {n : Nat} (hn : SameOK n) (hlen : n ≤ 1000000) (x y : S36) (v u : Value) (w : World) (hs : szT x ≤ n + 1) (hv : TermV w x v) (hu : TermV w y u) :
    Calls Tryz.prog 13 #[v, u] w fun e w' => e = .returned (.bool (sameT x y)) ∧ Below w.heap.size w w' := by
  have hu24 := Tryz.underlying36
  obtain ⟨A, c, rfl, hc, hC⟩ := hv
  obtain ⟨B, d, rfl, hd, hD⟩ := hu
  obtain ⟨W1, hW1⟩ : ∃ W1, w.alloc (.cells #[.int .u8 x.f0, .string x.f1, .int .i64 x.f2, .slice A x.f3.length c] 36) = W1 := ⟨_, rfl⟩
  have hb1 : Below w.heap.size w W1 := by rw [← hW1]; exact (Below.refl _ w).alloc (Nat.le_refl _) _
  have hb2 : Below w.heap.size w (W1.alloc (.cells #[.int .u8 y.f0, .string y.f1, .int .i64 y.f2, .slice B y.f3.length d] 36)) := hb1.alloc hb1.size _
  have hsl : szL x.f3 ≤ n := by rw [szT_eq] at hs; exact Nat.le_of_succ_le_succ hs
  have hcall := All_calls hn x.f3 y.f3 A B c d _ (Kd.C_below hC hb2) (Kd.C_below hD hb2) hsl hlen
  have hE := sameT_eq x y
  have s1 := strEqS x.f1 y.f1
  rw [← hW1] at hb2 hcall
  have HC := Lib.hid hcall
  clear hcall hC hD hW1 hb1 hsl hs hlen
  by_cases c0 : x.f0 = y.f0
  · have k0 : (x.f0 == y.f0) = true := by simp [c0]
    rw [decide_eq_true c0, Bool.true_and] at hE
    by_cases c1 : bl x.f1 = bl y.f1
    · have k1 : (x.f1.toList == y.f1.toList) = true := by rw [s1]; exact decide_eq_true c1
      rw [decide_eq_true c1, Bool.true_and] at hE
      by_cases c2 : x.f2 = y.f2
      · have k2 : (x.f2 == y.f2) = true := by simp [c2]
        rw [decide_eq_true c2, Bool.true_and] at hE
        have HE := Lib.hid hE
        obtain ⟨b, hbe⟩ : ∃ b, sameL x.f3 y.f3 = b := ⟨_, rfl⟩
        rw [hbe] at HC HE
        clear hE s1 c0 c1 c2 hbe
        go_enter Tryz.func13, Tryz.ntmps13
        go_wp2_with (go_at_call 28; refine HC.out.mono ?_; rintro e w3 ⟨rfl, hb3⟩)
        all_goals
          go_ret
          exact ⟨by rw [HE.out]; rfl, hb2.trans (hb3.mono hb2.size)⟩
      · have k2 : (x.f2 == y.f2) = false := by simp [c2]
        rw [decide_eq_false c2, Bool.false_and] at hE
        have HE := Lib.hid hE
        clear hE s1 c0 c1 c2 HC
        go_enter Tryz.func13, Tryz.ntmps13
        go_wp2
        go_ret
        exact ⟨by rw [HE.out]; rfl, hb2⟩
    · have k1 : (x.f1.toList == y.f1.toList) = false := by rw [s1]; exact decide_eq_false c1
      rw [decide_eq_false c1, Bool.false_and] at hE
      have HE := Lib.hid hE
      clear hE s1 c0 c1 HC
      go_enter Tryz.func13, Tryz.ntmps13
      go_wp2
      go_ret
      exact ⟨by rw [HE.out]; rfl, hb2⟩
  · have k0 : (x.f0 == y.f0) = false := by simp [c0]
    rw [decide_eq_false c0, Bool.false_and] at hE
    have HE := Lib.hid hE
    clear hE s1 c0 HC
    go_enter Tryz.func13, Tryz.ntmps13
    go_wp2
    go_ret
    exact ⟨by rw [HE.out]; rfl, hb2⟩

theorem sameOK : ∀ n, n ≤ 1000001 → SameOK n
  | 0, _ => fun x _ _ _ _ h _ _ => absurd h (by rw [szT_eq]; exact Nat.not_succ_le_zero _)
  | n + 1, hn => fun x y v u w hs hv hu => Same_step (sameOK n (by omega)) (by omega) x y v u w hs hv hu
end Go.Proofs.YtecjdjdfikcliaaGreatDoor.Pr
end
