/-
  ParseOps: the law's walk.
-/
import Derived.Test.YtecjdjdfikcliaaGreatDoorMIn
import Derived.Test.YtecjdjdfikcliaaGreatDoorMLaw
import Derived.Test.YtecjdjdfikcliaaGreatDoorMAll
namespace Go.Proofs.YtecjdjdfikcliaaGreatDoor.Pr
open Go Go.Proofs.YtecjdjdfikcliaaGreatDoor
open Go.RowKit Go.Proofs.YtecjdjdfikcliaaGreatDoorW.PrintWords Go.Proofs.YtecjdjdfikcliaaGreatDoorW.PrintLast Go.Proofs.YtecjdjdfikcliaaGreatDoorW.PrintMore Go.Proofs.YtecjdjdfikcliaaGreatDoor.P

theorem refInfix_calls (n : ByteArray) (w : World) : Calls Tryz.prog 7 #[.string n] w fun e w' => e = .returned (.tuple #[.int .i64 (infR (bl n)).1, .int .i64 (infR (bl n)).2.1, .int .i64 (infR (bl n)).2.2.1, .bool (infR (bl n)).2.2.2]) ∧ Below w.heap.size w w' := by
  obtain ⟨k, hk⟩ := Infix_f n
  rw [refI_eq] at hk
  refine (resolventref07_Infix.calls k n _ _ _ _ w hk).mono ?_
  rintro e w' ⟨he, hb⟩
  exact ⟨he, hb.below⟩
theorem refPrefix_calls (n : ByteArray) (w : World) : Calls Tryz.prog 9 #[.string n] w fun e w' => e = .returned (.tuple #[.int .i64 (preR (bl n)).1, .int .i64 (preR (bl n)).2.2.1, .bool (preR (bl n)).2.2.2]) ∧ Below w.heap.size w w' := by
  have hk := Prefix_f n
  rw [refP_eq] at hk
  refine (resolventref07_Prefix.calls n _ _ _ w hk).mono ?_
  rintro e w' ⟨he, hb⟩
  exact ⟨he, hb.below⟩

set_option maxHeartbeats 4000000 in
set_option maxRecDepth 100000 in
theorem ParseOps_calls (n : ByteArray) (w : World) (hE : LaidE w) (hP : LaidP w) : Calls Tryz.prog 3 #[.string n] w fun e w' => e = .returned (.bool true) ∧ Below w.heap.size w w' := by
  have HW := Lib.hid (fun W (h : Below w.heap.size w W) => wakes_calls (fun _ _ _ _ _ _ h1 h2 => allOK _ _ _ _ _ _ h1 h2) W (hE.below h) (hP.below h))
  have HPP := Lib.hid hP
  clear hE hP
  by_cases hl : 40 < n.size
  · have k1 : decide ((n.size : Int) > 40) = true := decide_eq_true (by omega)
    clear hl
    go_enter Tryz.func3, Tryz.ntmps3
    go_wp2_with fail
    go_at_call 5
    refine (HW.out w (Below.refl _ _)).mono ?_
    rintro e w1 ⟨rfl, hb1⟩
    go_wp2
    go_ret
    exact ⟨rfl, hb1⟩
  · have k1 : decide ((n.size : Int) > 40) = false := decide_eq_false (by omega)
    clear hl
    have hI := fun W (h : Below w.heap.size w W) => Infix_calls n W (HPP.out.below h)
    have hR := refInfix_calls n
    have hQ := Prefix_calls n
    have hS := refPrefix_calls n
    obtain ⟨⟨a1, a2, a3, a4⟩, ha⟩ : ∃ r, infR (bl n) = r := ⟨_, rfl⟩
    obtain ⟨⟨b1, b2, b3, b4⟩, hb⟩ : ∃ r, preR (bl n) = r := ⟨_, rfl⟩
    rw [ha] at hI hR
    rw [hb] at hQ hS
    have HI := Lib.hid hI
    have HR := Lib.hid hR
    have HQ := Lib.hid hQ
    have HS := Lib.hid hS
    clear hI hR hQ hS ha hb
    go_enter Tryz.func3, Tryz.ntmps3
    go_wp2_with fail
    go_at_call 6
    refine (HI.out w (Below.refl _ _)).mono ?_
    rintro e w1 ⟨rfl, hb1⟩
    go_wp2_with fail
    go_at_call 7
    refine (HR.out w1).mono ?_
    rintro e w2 ⟨rfl, hb2⟩
    go_wp2_with fail
    go_at_call 8
    refine (HQ.out w2).mono ?_
    rintro e w3 ⟨rfl, hb3⟩
    go_wp2_with fail
    go_at_call 9
    refine (HS.out w3).mono ?_
    rintro e w4 ⟨rfl, hb4⟩
    have hb14 : Below w.heap.size w w4 := ((hb1.trans (hb2.mono hb1.size)).trans (hb3.mono (Nat.le_trans hb1.size hb2.size))).trans (hb4.mono (Nat.le_trans (Nat.le_trans hb1.size hb2.size) hb3.size))
    clear hb1 hb2 hb3 hb4
    go_wp2_with fail
    go_at_call 5
    refine (HW.out w4 hb14).mono ?_
    rintro e w5 ⟨rfl, hb5⟩
    go_wp2
    go_ret
    exact ⟨rfl, hb14.trans (hb5.mono hb14.size)⟩
end Go.Proofs.YtecjdjdfikcliaaGreatDoor.Pr
