/-
  term.good: the walk, by induction on the depth.
-/
import Derived.Test.YthnjdfblappkfaaDoorMGood
namespace Go.Proofs.YthnjdfblappkfaaDoor
open Go.RowKit Go.Proofs.YthnjdfblappkfaaDoorW.PrintWords Go.Proofs.YthnjdfblappkfaaDoorW.PrintLast Go.Proofs.YthnjdfblappkfaaDoorW.PrintMore Go.Proofs.YthnjdfblappkfaaDoor.P

set_option maxHeartbeats 4000000 in
set_option maxRecDepth 100000 in
theorem good_zero : GoodOK 0 := by
  intro x v w hV
  obtain ⟨A, c, rfl, hc, hC⟩ := hV
  have hu24 := Tryd.underlying24
  go_enter Tryd.func46, Tryd.ntmps46
  go_wp2
  go_ret
  exact ⟨rfl, ((Below.refl _ w).alloc (Nat.le_refl _) _).alloc (by rw [World.size_alloc]; omega) _⟩

set_option maxHeartbeats 4000000 in
set_option maxRecDepth 100000 in
theorem good_step {d : Nat} (hd : GoodOK d) (hd0 : d ≤ 100) : GoodOK (d + 1) := by
  intro x v w hV
  obtain ⟨A, c, rfl, hc, hC⟩ := hV
  have hu24 := Tryd.underlying24
  have hbx : Below w.heap.size w ((w.alloc (.cells #[.int .u8 x.f0, .string x.f1, .int .i64 x.f2, .slice A x.f3.length c] 24)).alloc (.cells #[.int .i64 ((d : Int) + 1)] 3)) := ((Below.refl _ w).alloc (Nat.le_refl _) _).alloc (by rw [World.size_alloc]; omega) _
  have hz : ((d : Int) + 1 == 0) = false := by simp; omega
  have hcast : ((d + 1 : Nat) : Int) = (d : Int) + 1 := by omega
  rw [hcast]
  have k0 := Lib.hid hcast
  clear hcast
  by_cases c1 : x.f0 = 1
  · have k1 : (x.f0 == 1) = true := by rw [c1]; rfl
    have hm : Hid (goodM (d + 1) x = (decide (0 ≤ x.f2) && decide (bl x.f1 = []) && decide (x.f3.length = 0))) := by show _ = _; rw [goodM, if_pos c1]
    have t0 := tempty x.f1
    clear c1
    go_enter Tryd.func46, Tryd.ntmps46
    go_wp2
    all_goals
      go_ret
      refine ⟨?_, hbx⟩
      rw [hm.out]
      show Ending.returned (Value.bool _) = Ending.returned (Value.bool _)
      congr 2
      first
        | rfl
        | (simp [*]; done)
        | (rw [Bool.eq_iff_iff]; simp [*]; done)
        | (rw [Bool.eq_iff_iff]; simp [*]; omega)
  have k1 : (x.f0 == 1) = false := by simpa using c1
  by_cases c2 : x.f0 = 2
  · have k2 : (x.f0 == 2) = true := by rw [c2]; rfl
    have hm : Hid (goodM (d + 1) x = (decide (bl x.f1 = []) && decide (x.f3.length = 0))) := by show _ = _; rw [goodM, if_neg c1, if_pos c2]
    have t0 := tempty x.f1
    clear c1 c2
    go_enter Tryd.func46, Tryd.ntmps46
    go_wp2
    all_goals
      go_ret
      refine ⟨?_, hbx⟩
      rw [hm.out]
      show Ending.returned (Value.bool _) = Ending.returned (Value.bool _)
      congr 2
      first
        | rfl
        | (simp [*]; done)
        | (rw [Bool.eq_iff_iff]; simp [*]; done)
        | (rw [Bool.eq_iff_iff]; simp [*]; omega)
  have k2 : (x.f0 == 2) = false := by simpa using c2
  by_cases c3 : x.f0 = 3
  · have k3 : (x.f0 == 3) = true := by rw [c3]; rfl
    have hm : Hid (goodM (d + 1) x = (decide (x.f2 = 0) && decide (x.f3.length = 0) && nameOK (bl x.f1))) := by show _ = _; rw [goodM, if_neg c1, if_neg c2, if_pos c3]
    clear c1 c2 c3
    obtain ⟨q, hq⟩ : ∃ q, nameOK (bl x.f1) = q := ⟨_, rfl⟩
    have hN : ∀ W, Calls Tryd.prog 79 #[.string x.f1] W fun e w' => e = .returned (.bool q) ∧ Below W.heap.size W w' := by
      intro W
      rw [← hq]
      exact name_calls x.f1 W
    rw [hq] at hm
    clear hq
    by_cases g1 : x.f2 = 0
    · by_cases g2 : x.f3.length = 0
      · have b1 : (x.f2 == 0) = true := by rw [g1]; rfl
        have b2 : ((x.f3.length : Int) == 0) = true := by rw [g2]; rfl
        have hm2 : Hid (goodM (d + 1) x = q) := by show _ = _; rw [hm.out, decide_eq_true g1, decide_eq_true g2]; rfl
        clear hm g1 g2
        go_enter Tryd.func46, Tryd.ntmps46
        go_wp2_with (go_at_call 79; refine (hN _).mono ?_; rintro e w1 ⟨rfl, hb1⟩)
        go_ret
        refine ⟨?_, hbx.trans (hb1.mono hbx.size)⟩
        rw [hm2.out]
        rfl
      · have b1 : (x.f2 == 0) = true := by rw [g1]; rfl
        have b2 : ((x.f3.length : Int) == 0) = false := by simp; exact fun h => g2 (by rw [h]; rfl)
        have hm2 : Hid (goodM (d + 1) x = false) := by show _ = _; rw [hm.out, decide_eq_true g1, decide_eq_false g2]; rfl
        clear hm g1 g2
        go_enter Tryd.func46, Tryd.ntmps46
        go_wp2
        go_ret
        exact ⟨by rw [hm2.out]; rfl, hbx⟩
    · have b1 : (x.f2 == 0) = false := by simpa using g1
      have hm2 : Hid (goodM (d + 1) x = false) := by show _ = _; rw [hm.out, decide_eq_false g1]; rfl
      clear hm g1
      go_enter Tryd.func46, Tryd.ntmps46
      go_wp2
      go_ret
      exact ⟨by rw [hm2.out]; rfl, hbx⟩
  have k3 : (x.f0 == 3) = false := by simpa using c3
  by_cases c4 : x.f0 = 4
  · have k4 : (x.f0 == 4) = true := by rw [c4]; rfl
    have hm : Hid (goodM (d + 1) x = (decide (x.f2 = 0) && decide (1 ≤ x.f3.length) && decide (x.f3.length ≤ 16) && nameOK (bl x.f1) && !(x.f3.any fun a => !goodM d a))) := by show _ = _; rw [goodM, if_neg c1, if_neg c2, if_neg c3, if_pos c4]
    clear c1 c2 c3 c4
    obtain ⟨q, hq⟩ : ∃ q, nameOK (bl x.f1) = q := ⟨_, rfl⟩
    obtain ⟨z, hzz⟩ : ∃ z, (x.f3.any fun a => !goodM d a) = z := ⟨_, rfl⟩
    have hN : ∀ W, Calls Tryd.prog 79 #[.string x.f1] W fun e w' => e = .returned (.bool q) ∧ Below W.heap.size W w' := by
      intro W
      rw [← hq]
      exact name_calls x.f1 W
    rw [hq, hzz] at hm
    by_cases g1 : x.f2 = 0
    rotate_left
    · have b1 : (x.f2 == 0) = false := by simpa using g1
      have hm2 : Hid (goodM (d + 1) x = false) := by show _ = _; rw [hm.out, decide_eq_false g1]; rfl
      clear hm g1 hq hzz
      go_enter Tryd.func46, Tryd.ntmps46
      go_wp2
      go_ret
      exact ⟨by rw [hm2.out]; rfl, hbx⟩
    have b1 : (x.f2 == 0) = true := by rw [g1]; rfl
    by_cases g2 : 1 ≤ x.f3.length
    rotate_left
    · have b2 : decide ((1 : Int) ≤ (x.f3.length : Int)) = false := by simp; omega
      have hm2 : Hid (goodM (d + 1) x = false) := by show _ = _; rw [hm.out, decide_eq_true g1, decide_eq_false g2]; rfl
      clear hm g1 g2 hq hzz
      go_enter Tryd.func46, Tryd.ntmps46
      go_wp2
      go_ret
      exact ⟨by rw [hm2.out]; rfl, hbx⟩
    have b2 : decide ((1 : Int) ≤ (x.f3.length : Int)) = true := by simp; omega
    by_cases g3 : x.f3.length ≤ 16
    rotate_left
    · have b3 : decide ((x.f3.length : Int) ≤ 16) = false := by simp; omega
      have hm2 : Hid (goodM (d + 1) x = false) := by show _ = _; rw [hm.out, decide_eq_true g1, decide_eq_true g2, decide_eq_false g3]; rfl
      clear hm g1 hq hzz
      go_enter Tryd.func46, Tryd.ntmps46
      go_wp2
      go_ret
      exact ⟨by rw [hm2.out]; rfl, hbx⟩
    have b3 : decide ((x.f3.length : Int) ≤ 16) = true := by simp; omega
    have hT := (MapKept.heap_alloc w (.cells #[.int .u8 x.f0, .string x.f1, .int .i64 x.f2, .slice A x.f3.length c] 24)).1
    have hs1 : (w.alloc (.cells #[.int .u8 x.f0, .string x.f1, .int .i64 x.f2, .slice A x.f3.length c] 24)).heap.size = w.heap.size + 1 := World.size_alloc _ _
    have hD := (MapKept.heap_alloc (w.alloc (.cells #[.int .u8 x.f0, .string x.f1, .int .i64 x.f2, .slice A x.f3.length c] 24)) (.cells #[.int .i64 ((d : Int) + 1)] 3)).1
    rw [hs1] at hD
    have hT2 := (Below.heap_alloc (w.alloc (.cells #[.int .u8 x.f0, .string x.f1, .int .i64 x.f2, .slice A x.f3.length c] 24)) (.cells #[.int .i64 ((d : Int) + 1)] 3) w.heap.size (by omega)).trans hT
    have hs2 : ((w.alloc (.cells #[.int .u8 x.f0, .string x.f1, .int .i64 x.f2, .slice A x.f3.length c] 24)).alloc (.cells #[.int .i64 ((d : Int) + 1)] 3)).heap.size = w.heap.size + 2 := by rw [World.size_alloc, hs1]
    have hC2 := Kd.C_below hC hbx
    have hm2 : Hid (goodM (d + 1) x = (q && !z)) := by show _ = _; rw [hm.out, decide_eq_true g1, decide_eq_true g2, decide_eq_true g3]; rfl
    have HZ := Lib.hid hzz
    clear hm g1 hq hzz hT
    cases q with
    | false =>
      go_enter Tryd.func46, Tryd.ntmps46
      go_wp2_with (go_at_call 79; refine (hN _).mono ?_; rintro e w1 ⟨rfl, hb1⟩)
      go_ret
      exact ⟨by rw [hm2.out]; rfl, hbx.trans (hb1.mono hbx.size)⟩
    | true =>
      go_enter Tryd.func46, Tryd.ntmps46
      go_wp2_with (first
        | (go_at_call 79; refine (hN _).mono ?_; rintro e w1 ⟨rfl, hb1⟩; have a3 := Lib.cell_of_heap ((hb1.block w.heap.size (by omega)).trans hT2) 3; have hd3 := Lib.cell_of_heap ((hb1.block (w.heap.size + 1) (by omega)).trans hD) 0; have hC3 := Kd.C_below hC2 hb1)
        | (go_at_call 80; refine (contT_calls hd hd0 x.f3 A c (w.heap.size + 1) w1 hC3 g3 hd3).mono ?_; rintro e w2 ⟨rfl, hb2⟩; rw [HZ.out]))
      go_ret
      exact ⟨by rw [hm2.out]; rfl, (hbx.trans (hb1.mono hbx.size)).trans (hb2.mono (Nat.le_trans hbx.size hb1.size))⟩
  have k4 : (x.f0 == 4) = false := by simpa using c4
  have hm2 : Hid (goodM (d + 1) x = false) := by show _ = _; rw [goodM, if_neg c1, if_neg c2, if_neg c3, if_neg c4]
  clear c1 c2 c3 c4
  go_enter Tryd.func46, Tryd.ntmps46
  go_wp2
  go_ret
  exact ⟨by rw [hm2.out]; rfl, hbx⟩

theorem goodOK : ∀ d, d ≤ 100 → GoodOK d
  | 0, _ => good_zero
  | d + 1, h => good_step (goodOK d (by omega)) (by omega)

end Go.Proofs.YthnjdfblappkfaaDoor
