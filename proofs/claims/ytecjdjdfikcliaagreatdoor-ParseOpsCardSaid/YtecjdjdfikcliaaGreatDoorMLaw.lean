/- Several small texts of this claim in one. -/
import Derived.Test.YtecjdjdfikcliaaGreatDoorMTerms
import Derived.Test.YtecjdjdfikcliaaGreatDoorMBuilt
section
/-
  The texts of ParseSides and of the law's wakes, evaluated.
-/
namespace Go.Proofs.YtecjdjdfikcliaaGreatDoor.Pr
open Go Go.Proofs.YtecjdjdfikcliaaGreatDoor
open Go.RowKit Go.Proofs.YtecjdjdfikcliaaGreatDoorW.PrintWords Go.Proofs.YtecjdjdfikcliaaGreatDoorW.PrintLast Go.Proofs.YtecjdjdfikcliaaGreatDoorW.PrintMore Go.Proofs.YtecjdjdfikcliaaGreatDoor.P

def atomM (c : UInt8) : S36 := ⟨3, ⟨#[c]⟩, 0, []⟩
def opsL : List ByteArray := [⟨#[58, 45]⟩, ⟨#[59]⟩, ⟨#[45, 62]⟩, ⟨#[44]⟩, ⟨#[61]⟩, ⟨#[105, 115]⟩, ⟨#[43]⟩, ⟨#[45]⟩, ⟨#[42]⟩, ⟨#[109, 111, 100]⟩, ⟨#[60]⟩]
def sideT (a b : ByteArray) : ByteArray := ((((⟨#[97, 32]⟩ : ByteArray) ++ a) ++ ⟨#[32, 98, 32]⟩) ++ b) ++ ⟨#[32, 99, 46]⟩
def firstM (a b : ByteArray) : S36 := mkF b [mkF a [atomM 97, atomM 98], atomM 99]
def lastM (a b : ByteArray) : S36 := mkF a [atomM 97, mkF b [atomM 98, atomM 99]]
def sideOK (a b : ByteArray) : Bool :=
  (infR (bl a)).2.2.2 && ((infR (bl b)).2.2.2 && (decide (0 ≤ (infR (bl a)).2.1) && (decide (0 ≤ (infR (bl b)).2.2.1) &&
  match termsM (sideT a b) with
  | some (.ok [x]) => if (infR (bl b)).1 ≤ (infR (bl a)).2.2.1 then sameT x (lastM a b) else if (infR (bl a)).1 ≤ (infR (bl b)).2.1 then sameT x (firstM a b) else false
  | some (.error _) => !decide ((infR (bl b)).1 ≤ (infR (bl a)).2.2.1) && !decide ((infR (bl a)).1 ≤ (infR (bl b)).2.1)
  | _ => false)))

set_option maxRecDepth 100000 in
theorem sides_ok : (opsL.all fun a => opsL.all fun b => sideOK a b) = true := by kernel_rfl

def wake1 : ByteArray := ⟨#[97, 58, 45, 98, 44, 99, 46, 32, 88, 61, 102, 40, 88, 44, 95, 41, 46]⟩
def wake2 : ByteArray := ⟨#[97, 61, 98, 61, 99, 46]⟩
def wakeA : S36 := mkF ⟨#[58, 45]⟩ [atomM 97, mkF ⟨#[44]⟩ [atomM 98, atomM 99]]
def wakeB : S36 := mkF ⟨#[61]⟩ [⟨1, ⟨#[]⟩, 0, []⟩, mkF ⟨#[102]⟩ [⟨1, ⟨#[]⟩, 0, []⟩, ⟨1, ⟨#[]⟩, 1, []⟩]]
set_option maxRecDepth 100000 in
theorem wake1_ok : termsM wake1 = some (.ok [wakeA, wakeB]) := by kernel_rfl
set_option maxRecDepth 100000 in
theorem wake2_ok : termsM wake2 = some (.error 3) := by kernel_rfl
end Go.Proofs.YtecjdjdfikcliaaGreatDoor.Pr
end
section
/-
  What the laws of layer 7 build: structures of two terms; Same at terms that are read.
-/
namespace Go.Proofs.YtecjdjdfikcliaaGreatDoor.Pr
open Go Go.Proofs.YtecjdjdfikcliaaGreatDoor
open Go.RowKit Go.Proofs.YtecjdjdfikcliaaGreatDoorW.PrintWords Go.Proofs.YtecjdjdfikcliaaGreatDoorW.PrintLast Go.Proofs.YtecjdjdfikcliaaGreatDoorW.PrintMore Go.Proofs.YtecjdjdfikcliaaGreatDoor.P

abbrev AllOK : Prop := ∀ (w0 : World) (rb : Nat) (A : Option Addr) (c : Nat) (toks : List S62) (k : Nat), w0.heap.size ≤ rb → LaidP w0 → TermOK w0 rb A c toks k

/-- A term's value. -/
def tv (x : S36) (A : Option Addr) (c : Nat) : Value := .agg #[.int .u8 x.f0, .string x.f1, .int .i64 x.f2, .slice A x.f3.length c]
/-- A term as its parts, read. -/
def TermP (w : World) (x : S36) (A : Option Addr) (c : Nat) : Prop := x.f3.length ≤ c ∧ Kd.C k36 w A x.f3.length x.f3
theorem TermP.below {w w' : World} {x : S36} {A : Option Addr} {c : Nat} (h : TermP w x A c) (hb : Below w.heap.size w w') : TermP w' x A c := ⟨h.1, Kd.C_below h.2 hb⟩
theorem TermP.leaf (w : World) (f0 : Int) (f1 : ByteArray) (f2 : Int) : TermP w ⟨f0, f1, f2, []⟩ none 0 := ⟨Nat.le_refl _, C_nil _⟩

theorem F2_calls (s : ByteArray) (x y : S36) (A B : Option Addr) (c d : Nat) (w : World) (hx : TermP w x A c) (hy : TermP w y B d) :
    Calls Tryz.prog 15 #[.string s, .slice (some ⟨w.heap.size, 0, none⟩) 2 2] (w.alloc (.cells #[.int .u8 x.f0, .string x.f1, .int .i64 x.f2, .slice A x.f3.length c, .int .u8 y.f0, .string y.f1, .int .i64 y.f2, .slice B y.f3.length d] 36)) fun e w' =>
      ∃ z A' c', Hid (z = mkF s [x, y]) ∧ e = .returned (.agg #[.int .u8 z.f0, .string z.f1, .int .i64 z.f2, .slice A' z.f3.length c']) ∧ Hid (TermP w' z A' c') ∧ Below w.heap.size w w' := by
  have hal : Below w.heap.size w (w.alloc (.cells (cellsOf [(x, A, c), (y, B, d)]).toArray 36)) := (Below.refl _ w).alloc (Nat.le_refl _) _
  have hF := lit_F w (fun k => k < w.heap.size) [(x, A, c), (y, B, d)] (by simp) (by intro q hq; simp at hq; rcases hq with rfl | rfl; exact ⟨hx.1, Kd.C_F heap24 hx.2⟩; exact ⟨hy.1, Kd.C_F heap24 hy.2⟩)
  refine (F_F s (some ⟨w.heap.size, 0, none⟩) 2 [x, y] _ _ hF (by simp)).mono ?_
  rintro e w' ⟨⟨v, rfl, A', c', rfl, hc', hF'⟩, hb⟩
  exact ⟨mkF s [x, y], A', c', rfl, rfl, ⟨hc', Kd.F_now hF'⟩, hal.trans (hb.mono hal.size)⟩

theorem Same_calls (x y : S36) (A B : Option Addr) (c d : Nat) (w : World) (hs : szT x ≤ 1000000) (hx : TermP w x A c) (hy : TermP w y B d) :
    Calls Tryz.prog 13 #[.agg #[.int .u8 x.f0, .string x.f1, .int .i64 x.f2, .slice A x.f3.length c], .agg #[.int .u8 y.f0, .string y.f1, .int .i64 y.f2, .slice B y.f3.length d]] w fun e w' => e = .returned (.bool (sameT x y)) ∧ Below w.heap.size w w' :=
  sameOK 1000000 (by decide) x y _ _ w hs ⟨A, c, rfl, hx⟩ ⟨B, d, rfl, hy⟩
/-- Terms that are one. -/
theorem Same_one (x y : S36) (he : Hid (y = x)) (A B : Option Addr) (c d : Nat) (w : World) (hs : szT x ≤ 1000000) (hx : TermP w x A c) (hy : TermP w y B d) :
    Calls Tryz.prog 13 #[.agg #[.int .u8 x.f0, .string x.f1, .int .i64 x.f2, .slice A x.f3.length c], .agg #[.int .u8 y.f0, .string y.f1, .int .i64 y.f2, .slice B y.f3.length d]] w fun e w' => e = .returned (.bool true) ∧ Below w.heap.size w w' := by
  have h := Same_calls x y A B c d w hs hx hy
  rw [(sameT_iff x y).2 he.out.symm] at h
  exact h
/-- A term that was read. -/
def El (w : World) (g j : Nat) (x : S36) (A : Option Addr) (c : Nat) : Prop := w.cell? ⟨g, j, none⟩ = some (.int .u8 x.f0) ∧ w.cell? ⟨g, j + 1, none⟩ = some (.string x.f1) ∧ w.cell? ⟨g, j + 2, none⟩ = some (.int .i64 x.f2) ∧ w.cell? ⟨g, j + 3, none⟩ = some (.slice A x.f3.length c)
theorem El.below {w w' : World} {g j : Nat} {x : S36} {A : Option Addr} {c : Nat} (h : El w g j x A c) (hb : Below w.heap.size w w') : El w' g j x A c :=
  ⟨(hb.cell (World.block_lt_of_cell? w _ h.1)).trans h.1, (hb.cell (World.block_lt_of_cell? w _ h.2.1)).trans h.2.1, (hb.cell (World.block_lt_of_cell? w _ h.2.2.1)).trans h.2.2.1, (hb.cell (World.block_lt_of_cell? w _ h.2.2.2)).trans h.2.2.2⟩
theorem reads_one {w : World} {v : Value} {x : S36} (h : ReadsV w v [x]) : ∃ g c A c', v = .slice (some ⟨g, 0, none⟩) 1 c ∧ El w g 0 x A c' ∧ TermP w x A c' := by
  obtain ⟨g, c, hv, hj⟩ := h.2 (by simp)
  obtain ⟨A, c', h0, h1, h2, h3, h4, h5⟩ := hj 0 (by simp)
  exact ⟨g, c, A, c', hv, ⟨h0, h1, h2, h3⟩, h4, h5⟩
theorem reads_two {w : World} {v : Value} {x y : S36} (h : ReadsV w v [x, y]) : ∃ g c A c' B d', v = .slice (some ⟨g, 0, none⟩) 2 c ∧ El w g 0 x A c' ∧ TermP w x A c' ∧ El w g 5 y B d' ∧ TermP w y B d' := by
  obtain ⟨g, c, hv, hj⟩ := h.2 (by simp)
  obtain ⟨A, c', h0, h1, h2, h3, h4, h5⟩ := hj 0 (by simp)
  obtain ⟨B, d', k0, k1, k2, k3, k4, k5⟩ := hj 1 (by simp)
  exact ⟨g, c, A, c', B, d', hv, ⟨h0, h1, h2, h3⟩, ⟨h4, h5⟩, ⟨k0, k1, k2, k3⟩, k4, k5⟩
end Go.Proofs.YtecjdjdfikcliaaGreatDoor.Pr
end
section
/-
  The laws' wakes of layer 7: the walk.
-/
namespace Go.Proofs.YtecjdjdfikcliaaGreatDoor.Pr
open Go Go.Proofs.YtecjdjdfikcliaaGreatDoor
open Go.RowKit Go.Proofs.YtecjdjdfikcliaaGreatDoorW.PrintWords Go.Proofs.YtecjdjdfikcliaaGreatDoorW.PrintLast Go.Proofs.YtecjdjdfikcliaaGreatDoorW.PrintMore Go.Proofs.YtecjdjdfikcliaaGreatDoor.P

set_option maxHeartbeats 8000000 in
set_option maxRecDepth 100000 in
theorem wakes_calls (hOK : AllOK) (w : World) (hE : LaidE w) (hP : LaidP w) : Calls Tryz.prog 5 #[] w fun e w' => e = .returned (.bool true) ∧ Below w.heap.size w w' := by
  have hu39 := Tryz.underlying36
  have hu42 := Tryz.underlying39
  have HT1 := Lib.hid (Terms_calls hOK wake1_ok w hE hP)
  have HT2 := Lib.hid (fun W (h : Below w.heap.size w W) => Terms_calls hOK wake2_ok W (hE.below h) (hP.below h))
  have HPP := Lib.hid hP
  clear hOK hE hP
  go_enter Tryz.func5, Tryz.ntmps5
  go_wp2_with fail
  go_at_call 10
  refine HT1.out.mono ?_
  rintro e w1 ⟨hb1, v, rfl, hv1⟩
  obtain ⟨g, c, A0, c0, A1, c1, rfl, el0, tp0, el1, tp1⟩ := reads_two hv1
  clear hv1
  go_wp2_with fail
  go_at_call 10
  refine (HT2.out w1 hb1).mono ?_
  rintro e w2 ⟨hb2, ha2⟩
  obtain rfl : e = .returned (.tuple #[.slice none 0 0, .int .i64 3, .int .i64 11]) := ha2
  have hI := Infix_calls ⟨#[61]⟩ w2 ((HPP.out.below hb1).below hb2)
  rw [show infR (bl ⟨#[61]⟩) = (700, 699, 699, true) from by decide] at hI
  have HI := Lib.hid hI
  clear hI
  go_wp2_with fail
  go_at_call 6
  refine HI.out.mono ?_
  rintro e w3 ⟨rfl, hb3⟩
  have hb13 : Below w1.heap.size w1 w3 := hb2.trans (hb3.mono hb2.size)
  have hE0 := el0.below hb13
  have hE1 := el1.below hb13
  have Htp0 := Lib.hid (tp0.below hb13)
  have Htp1 := Lib.hid (tp1.below hb13)
  have hbd : Below w3.heap.size w3 w3.drew := (Below.refl _ w3).drew
  have HB3 := Lib.hid (hb1.trans (hb13.mono hb1.size))
  obtain ⟨ta, hta⟩ : ∃ t, wakeA = t := ⟨_, rfl⟩
  obtain ⟨tb, htb⟩ : ∃ t, wakeB = t := ⟨_, rfl⟩
  have hsa : szT ta ≤ 1000000 := by rw [← hta]; decide
  have hsb : szT tb ≤ 1000000 := by rw [← htb]; decide
  rw [hta] at hE0
  rw [htb] at hE1
  have HS : Hid (∀ W', Below w3.heap.size w3 W' → W'.cell? ⟨g, 0, none⟩ = some (.int .u8 ta.f0) ∧ W'.cell? ⟨g, 1, none⟩ = some (.string ta.f1) ∧ W'.cell? ⟨g, 2, none⟩ = some (.int .i64 ta.f2) ∧ W'.cell? ⟨g, 3, none⟩ = some (.slice A0 ta.f3.length c0) ∧ W'.cell? ⟨g, 5, none⟩ = some (.int .u8 tb.f0) ∧ W'.cell? ⟨g, 6, none⟩ = some (.string tb.f1) ∧ W'.cell? ⟨g, 7, none⟩ = some (.int .i64 tb.f2) ∧ W'.cell? ⟨g, 8, none⟩ = some (.slice A1 tb.f3.length c1)) := fun W' h => ⟨(hE0.below h).1, (hE0.below h).2.1, (hE0.below h).2.2.1, (hE0.below h).2.2.2, (hE1.below h).1, (hE1.below h).2.1, (hE1.below h).2.2.1, (hE1.below h).2.2.2⟩
  rw [hta] at Htp0
  rw [htb] at Htp1
  have HTA := Lib.hid hta
  have HTB := Lib.hid htb
  clear hE0 hE1 el0 el1 tp0 tp1 hb1 hb2 hb3 hb13 hta htb
  go_wp2_with fail
  go_region_held (fun W' => W'.cell? ⟨g, 0, none⟩ = some (.int .u8 ta.f0) ∧ W'.cell? ⟨g, 1, none⟩ = some (.string ta.f1) ∧ W'.cell? ⟨g, 2, none⟩ = some (.int .i64 ta.f2) ∧ W'.cell? ⟨g, 3, none⟩ = some (.slice A0 ta.f3.length c0) ∧ W'.cell? ⟨g, 5, none⟩ = some (.int .u8 tb.f0) ∧ W'.cell? ⟨g, 6, none⟩ = some (.string tb.f1) ∧ W'.cell? ⟨g, 7, none⟩ = some (.int .i64 tb.f2) ∧ W'.cell? ⟨g, 8, none⟩ = some (.slice A1 tb.f3.length c1))
    (first | exact HS.out _ (hb13.alloc hb13.size _) | exact HS.out _ (hb12.alloc hb12.size _) | exact HS.out _ (hb7.alloc hb7.size _) | exact HS.out _ (hb6.alloc hb6.size _) | exact HS.out _ hb15 | exact HS.out _ hb14 | exact HS.out _ hb13 | exact HS.out _ hb12 | exact HS.out _ hb11 | exact HS.out _ hb10 | exact HS.out _ hb9 | exact HS.out _ hb8 | exact HS.out _ hb7 | exact HS.out _ hb6 | exact HS.out _ hb5 | exact HS.out _ hb4 | exact HS.out _ hbd)
    (first
      | (go_at_call 13; refine (Same_one tb z4 (by show _ = _; rw [hz4.out, hz3.out, ← HTB.out]; rfl) A1 B4 c1 d4 w14 hsb (Htp1.out.below hb14) hp4.out).mono ?_; rintro e w15 ⟨rfl, hb15'⟩; have hb15 : Below w3.heap.size w3 w15 := hb14.trans (hb15'.mono hb14.size))
      | (go_at_call 15; refine (F2_calls ⟨#[61]⟩ ⟨1, ⟨#[]⟩, 0, []⟩ z3 none B3 0 d3 w13 (TermP.leaf _ _ _ _) hp3.out).mono ?_; rintro e w14 ⟨z4, B4, d4, hz4, rfl, hp4, hb14'⟩; have hb14 : Below w3.heap.size w3 w14 := hb13.trans (hb14'.mono hb13.size))
      | (go_at_call 15; refine (F2_calls ⟨#[102]⟩ ⟨1, ⟨#[]⟩, 0, []⟩ ⟨1, ⟨#[]⟩, 1, []⟩ none none 0 0 w12 (TermP.leaf _ _ _ _) (TermP.leaf _ _ _ _)).mono ?_; rintro e w13 ⟨z3, B3, d3, hz3, rfl, hp3, hb13'⟩; have hb13 : Below w3.heap.size w3 w13 := hb12.trans (hb13'.mono hb12.size))
      | (go_at_call 17; refine (V_calls 1 w11).mono ?_; rintro e w12 ⟨rfl, hb12'⟩; have hb12 : Below w3.heap.size w3 w12 := hb11.trans (hb12'.mono hb11.size))
      | (go_at_call 17; refine (V_calls 0 w10).mono ?_; rintro e w11 ⟨rfl, hb11'⟩; have hb11 : Below w3.heap.size w3 w11 := hb10.trans (hb11'.mono hb10.size))
      | (go_at_call 17; refine (V_calls 0 w9).mono ?_; rintro e w10 ⟨rfl, hb10'⟩; have hb10 : Below w3.heap.size w3 w10 := hb9.trans (hb10'.mono hb9.size))
      | (go_at_call 13; refine (Same_one ta z2 (by show _ = _; rw [hz2.out, hz1.out, ← HTA.out]; rfl) A0 B2 c0 d2 w8 hsa (Htp0.out.below hb8) hp2.out).mono ?_; rintro e w9 ⟨rfl, hb9'⟩; have hb9 : Below w3.heap.size w3 w9 := hb8.trans (hb9'.mono hb8.size))
      | (go_at_call 15; refine (F2_calls ⟨#[58, 45]⟩ (atomM 97) z1 none B1 0 d1 w7 (TermP.leaf _ _ _ _) hp1.out).mono ?_; rintro e w8 ⟨z2, B2, d2, hz2, rfl, hp2, hb8'⟩; have hb8 : Below w3.heap.size w3 w8 := hb7.trans (hb8'.mono hb7.size))
      | (go_at_call 15; refine (F2_calls ⟨#[44]⟩ (atomM 98) (atomM 99) none none 0 0 w6 (TermP.leaf _ _ _ _) (TermP.leaf _ _ _ _)).mono ?_; rintro e w7 ⟨z1, B1, d1, hz1, rfl, hp1, hb7'⟩; have hb7 : Below w3.heap.size w3 w7 := hb6.trans (hb7'.mono hb6.size))
      | (go_at_call 16; refine (A_calls ⟨#[99]⟩ w5).mono ?_; rintro e w6 ⟨rfl, hb6'⟩; have hb6 : Below w3.heap.size w3 w6 := hb5.trans (hb6'.mono hb5.size))
      | (go_at_call 16; refine (A_calls ⟨#[98]⟩ w4).mono ?_; rintro e w5 ⟨rfl, hb5'⟩; have hb5 : Below w3.heap.size w3 w5 := hb4.trans (hb5'.mono hb4.size))
      | (go_at_call 16; refine (A_calls ⟨#[97]⟩ w3.drew).mono ?_; rintro e w4 ⟨rfl, hb4'⟩; have hb4 : Below w3.heap.size w3 w4 := hbd.trans (hb4'.mono hbd.size)))
  all_goals
    go_wp2
    go_ret
    exact ⟨rfl, HB3.out.trans (hb15.mono HB3.out.size)⟩
end Go.Proofs.YtecjdjdfikcliaaGreatDoor.Pr
end
