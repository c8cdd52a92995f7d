/-
  write.Text: a term's text, or the empty text.
-/
import Derived.Test.YthnjdfblappkfaaDoorWGoodG
import Derived.Test.YthnjdfblappkfaaDoorMText
namespace Go.Proofs.YthnjdfblappkfaaDoor
open Go.RowKit Go.Proofs.YthnjdfblappkfaaDoorW.PrintWords Go.Proofs.YthnjdfblappkfaaDoorW.PrintLast Go.Proofs.YthnjdfblappkfaaDoorW.PrintMore Go.Proofs.YthnjdfblappkfaaDoor.P

theorem Good_calls (x : S24) (v : Value) (w : World) (hV : TermV w x v) :
    Calls Tryd.prog 20 #[v] w fun e w' => e = .returned (.bool (goodM 64 x)) ∧ Below w.heap.size w w' := by
  have hu24 := Tryd.underlying24
  obtain ⟨A, c, rfl, hc, hC⟩ := hV
  have hbx : Below w.heap.size w (w.alloc (.cells #[.int .u8 x.f0, .string x.f1, .int .i64 x.f2, .slice A x.f3.length c] 24)) := (Below.refl _ w).alloc (Nat.le_refl _) _
  have h : Calls Tryd.prog 46 #[_, .int .i64 64] _ fun e w' => e = .returned (.bool (goodM 64 x)) ∧ Below _ _ w' := goodOK 64 (by decide) x _ _ (TermV.below ⟨A, c, rfl, hc, hC⟩ hbx)
  go_enter Tryd.func20, Tryd.ntmps20
  go_wp2_with (go_at_call 46; refine h.mono ?_; rintro e w1 ⟨rfl, hb1⟩)
  go_ret
  exact ⟨rfl, hbx.trans (hb1.mono hbx.size)⟩

set_option maxRecDepth 100000 in
theorem Text_calls (k : Nat) (x : S24) (v : Value) (r : List UInt8) (w : World) (hL : LaidW w) (hV : TermV w x v) (hr : goodM 64 x = true → textF k x = some r) :
    Calls Tryd.prog 15 #[v] w fun e w' => e = .returned (.string ⟨(if goodM 64 x = true then r else []).toArray⟩) ∧ Below w.heap.size w w' := by
  have hu24 := Tryd.underlying24
  obtain ⟨A, c, rfl, hc, hC⟩ := hV
  have hbx : Below w.heap.size w (w.alloc (.cells #[.int .u8 x.f0, .string x.f1, .int .i64 x.f2, .slice A x.f3.length c] 24)) := (Below.refl _ w).alloc (Nat.le_refl _) _
  have hV1 : TermV _ x _ := TermV.below ⟨A, c, rfl, hc, hC⟩ hbx
  have hL1 := hL.below hbx
  have hT := (MapKept.heap_alloc w (.cells #[.int .u8 x.f0, .string x.f1, .int .i64 x.f2, .slice A x.f3.length c] 24)).1
  have hs1 : (w.alloc (.cells #[.int .u8 x.f0, .string x.f1, .int .i64 x.f2, .slice A x.f3.length c] 24)).heap.size = w.heap.size + 1 := World.size_alloc _ _
  have hG := Good_calls x _ _ hV1
  cases hg : goodM 64 x with
  | false =>
    rw [hg] at hG
    have HG := Lib.hid hG
    clear hG hr hg
    go_enter Tryd.func15, Tryd.ntmps15
    go_wp2_with (go_at_call 20; refine HG.out.mono ?_; rintro e w1 ⟨rfl, hb1⟩)
    go_ret
    exact ⟨rfl, hbx.trans (hb1.mono hbx.size)⟩
  | true =>
    rw [hg] at hG
    have HG := Lib.hid hG
    have HR := Lib.hid (hr hg)
    clear hG hr hg
    go_enter Tryd.func15, Tryd.ntmps15
    go_wp2_with (first | (go_at_call 20; refine HG.out.mono ?_; rintro e w1 ⟨rfl, hb1⟩; have hT1 := (hb1.block w.heap.size (by omega)).trans hT; have a0 := Lib.cell_of_heap hT1 0; have a1 := Lib.cell_of_heap hT1 1; have a2 := Lib.cell_of_heap hT1 2; have a3 := Lib.cell_of_heap hT1 3) | (go_at_call 38; refine (textOK k x _ r _ (hL1.below hb1) (hV1.below hb1) HR.out).mono ?_; rintro e w2 ⟨rfl, hb2⟩))
    go_ret
    exact ⟨rfl, (hbx.trans (hb1.mono hbx.size)).trans (hb2.mono (Nat.le_trans hbx.size hb1.size))⟩
end Go.Proofs.YthnjdfblappkfaaDoor
