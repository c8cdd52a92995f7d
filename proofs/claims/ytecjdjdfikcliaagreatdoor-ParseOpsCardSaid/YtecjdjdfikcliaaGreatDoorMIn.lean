/- Several small texts of this claim in one. -/
import Derived.Test.YtecjdjdfikcliaaGreatDoorP0
import Derived.Test.YtecjdjdfikcliaaGreatDoorMOps
section
-- Written by a program (p2.py over the kit's print). Not trusted: Lean checks it.
namespace Go.Proofs.YtecjdjdfikcliaaGreatDoor.P
open Go.RowKit Go.Proofs.YtecjdjdfikcliaaGreatDoorW.PrintWords Go.Proofs.YtecjdjdfikcliaaGreatDoorW.PrintLast Go.Proofs.YtecjdjdfikcliaaGreatDoorW.PrintMore
attribute [local go_sem] max2_int min2_int max_two min_two max_three min_three max_four min_four   -- for this text's walks alone
set_option linter.unusedVariables false
set_option linter.unusedSimpArgs false

/-! ### resolventref07_In: function 19 -/
mutual
def resolventref07_In.l0 : Nat → ByteArray → ByteArray → ByteArray → Int → Option (Bool)
  | 0, _, _, _, _ => none
  | k + 1, x0, x1, x5, x6 => if x6 ≤ (x1.size : Int) then (if x6 = (x1.size : Int) then (resolventref07_In.j1 k x0 x1 x5 x6 true) else (if 0 ≤ x6 then (if x6 < (x1.size : Int) then (resolventref07_In.j1 k x0 x1 x5 x6 ((bt x1 x6) == 32)) else (none)) else (none))) else (some false)
def resolventref07_In.j1 : Nat → ByteArray → ByteArray → ByteArray → Int → Bool → Option (Bool)
  | 0, _, _, _, _, _ => none
  | k + 1, x0, x1, x5, x6, x22 => if x22 = true then (if x5.toList = x0.toList then (if x5.toList = ([] : List UInt8) then (resolventref07_In.l0 k x0 x1 (⟨#[]⟩ : ByteArray) (wrap64 (x6 + 1))) else (some true)) else (resolventref07_In.l0 k x0 x1 (⟨#[]⟩ : ByteArray) (wrap64 (x6 + 1)))) else (if 0 ≤ x6 then (if x6 ≤ (wrap64 (x6 + 1)) then (if (wrap64 (x6 + 1)) ≤ (x1.size : Int) then (if x5.size + (x1.extract (x6 : Int).toNat ((wrap64 (x6 + 1)) : Int).toNat).size ≤ 9223372036854775807 then (resolventref07_In.l0 k x0 x1 (x5 ++ (x1.extract (x6 : Int).toNat ((wrap64 (x6 + 1)) : Int).toNat)) (wrap64 (x6 + 1))) else (none)) else (none)) else (none)) else (none))
end
def resolventref07_In.f (k : Nat) (a0 : ByteArray) (a1 : ByteArray) : Option (Bool) := resolventref07_In.l0 k a0 a1 (⟨#[]⟩ : ByteArray) 0
theorem resolventref07_In.mono_l : ∀ k, (∀ y0 y1 y2 y3, LeO (resolventref07_In.l0 k y0 y1 y2 y3) (resolventref07_In.l0 (k + 1) y0 y1 y2 y3)) ∧ (∀ y0 y1 y2 y3 y4, LeO (resolventref07_In.j1 k y0 y1 y2 y3 y4) (resolventref07_In.j1 (k + 1) y0 y1 y2 y3 y4))
  | 0 => ⟨fun _ _ _ _ r h => by simp [resolventref07_In.l0] at h, fun _ _ _ _ _ r h => by simp [resolventref07_In.j1] at h⟩
  | k + 1 => by
    obtain ⟨ih0, ih1⟩ := resolventref07_In.mono_l k
    refine ⟨?_, ?_⟩
    · intro y0 y1 y2 y3
      unfold resolventref07_In.l0
      repeat' first
      | (with_reducible exact ih0 _ _ _ _)
      | (with_reducible exact ih1 _ _ _ _ _)
      | (with_reducible exact LeO.refl _)
      | (with_reducible exact LeO.none _)
      | (with_reducible refine LeO.ite ?_ ?_)
      | (with_reducible refine LeO.bind ?_ (fun _ => ?_))
      | exact ih0 _ _ _ _
      | exact ih1 _ _ _ _ _
      | exact LeO.none _
      | refine LeO.ite ?_ ?_
      | refine LeO.bind ?_ (fun _ => ?_)
    · intro y0 y1 y2 y3 y4
      unfold resolventref07_In.j1
      repeat' first
      | (with_reducible exact ih0 _ _ _ _)
      | (with_reducible exact ih1 _ _ _ _ _)
      | (with_reducible exact LeO.refl _)
      | (with_reducible exact LeO.none _)
      | (with_reducible refine LeO.ite ?_ ?_)
      | (with_reducible refine LeO.bind ?_ (fun _ => ?_))
      | exact ih0 _ _ _ _
      | exact ih1 _ _ _ _ _
      | exact LeO.none _
      | refine LeO.ite ?_ ?_
      | refine LeO.bind ?_ (fun _ => ?_)
theorem resolventref07_In.mono : ∀ a0 a1 k, LeO (resolventref07_In.f k a0 a1) (resolventref07_In.f (k + 1) a0 a1) := by
  intro a0 a1 k
  obtain ⟨ih0, ih1⟩ := resolventref07_In.mono_l k
  unfold resolventref07_In.f
  repeat' first
      | (with_reducible exact ih0 _ _ _ _)
      | (with_reducible exact ih1 _ _ _ _ _)
      | (with_reducible exact LeO.refl _)
      | (with_reducible exact LeO.none _)
      | (with_reducible refine LeO.ite ?_ ?_)
      | (with_reducible refine LeO.bind ?_ (fun _ => ?_))
      | exact ih0 _ _ _ _
      | exact ih1 _ _ _ _ _
      | exact LeO.none _
      | refine LeO.ite ?_ ?_
      | refine LeO.bind ?_ (fun _ => ?_)
set_option maxHeartbeats 8000000 in
set_option maxRecDepth 100000 in
theorem resolventref07_In.calls (k : Nat) (a0 : ByteArray) (a1 : ByteArray) (r : Bool) (w : World) (h : resolventref07_In.f k a0 a1 = some r) :
    Calls Tryz.prog 19 #[.string a0, .string a1] w fun e w' => e = .returned (.bool r) ∧ Drawn0 w w' := by
  have H : (resolventref07_In.l0 k a0 a1 (⟨#[]⟩ : ByteArray) 0) = some r := h
  clear h
  have H' := Aside0.mk H
  clear H
  go_enter Tryz.func19, Tryz.ntmps19
  go_wp2
  go_loopg [5, 6] k (fun kq v5 v6 w' => ∃ (x5_1 : ByteArray) (x6_1 : Int), v5 = .string x5_1 ∧ v6 = .int .i64 x6_1 ∧ Aside0 (resolventref07_In.l0 kq a0 a1 x5_1 x6_1 = some r) ∧ Aside0 (kq ≤ k) ∧ Drawn0 w w')
  case atStart => exact ⟨((⟨#[]⟩ : ByteArray)), (0), (by first | rfl | (simp; done) | (simp [*]; done)), (by first | rfl | (simp; done) | (simp [*]; done)), H', ⟨Nat.le_refl _⟩, by repeat (first | exact Drawn0.refl _ | apply Drawn0.step)⟩
  case round =>
    clear H'
    try clear c1
    try clear p2
    obtain ⟨x5_1, x6_1, rfl, rfl, HA, HK1, ⟨m1, rfl⟩⟩ := hrel
    cases gk with
    | zero => exact absurd HA.out (by simp [resolventref07_In.l0])
    | succ k1 =>
      have H := HA.out
      clear HA
      simp only [resolventref07_In.l0] at H
      by_cases c3 : x6_1 ≤ (a1.size : Int)
      · rw [if_pos c3] at H
        have c3b0 : decide (x6_1 ≤ (a1.size : Int)) = true := decide_eq_true c3
        clear c3
        have HC4 := Aside0.mk H
        clear H
        go_upto_region 5 with (fail)
        go_cut [22] (fun v22 wc => ∃ (kq : Nat) (x22_3 : Bool), v22 = .bool x22_3 ∧ Aside0 (resolventref07_In.j1 kq a0 a1 x5_1 x6_1 x22_3 = some r) ∧ Aside0 (kq ≤ k1) ∧ Drawn0 w wc)
        case first =>
          have H := HC4.out
          clear HC4
          by_cases c5 : x6_1 = (a1.size : Int)
          · rw [if_pos c5] at H
            have c5b0 : (x6_1 == (a1.size : Int)) = true := beq_iff_eq.mpr c5
            have c5b1 : (x6_1 != (a1.size : Int)) = false := bne_eq_false_iff_eq.mpr c5
            clear c5
            (first | rw [c5b0] | (simp only [i64_w, i32_w]; rw [c5b0]) | skip)
            have H' := Aside0.mk H
            clear H
            go_wp2
            go_meet
            case rel => exact ⟨_, (true), (by first | rfl | (simp; done) | (simp [*]; done)), H', ⟨by have := HK1.out; first | omega | exact Nat.le_refl _⟩, by repeat (first | exact Drawn0.refl _ | apply Drawn0.step)⟩
          · rw [if_neg c5] at H
            have c5b0 : (x6_1 == (a1.size : Int)) = false := beq_eq_false_iff_ne.mpr c5
            have c5b1 : (x6_1 != (a1.size : Int)) = true := bne_iff_ne.mpr c5
            (first | rw [c5b0] | (simp only [i64_w, i32_w]; rw [c5b0]) | skip)
            by_cases c6 : 0 ≤ x6_1
            · rw [if_pos c6] at H
              have c6b0 : decide (0 ≤ x6_1) = true := decide_eq_true c6
              clear c6
              by_cases c7 : x6_1 < (a1.size : Int)
              · rw [if_pos c7] at H
                have c7b0 : decide (x6_1 < (a1.size : Int)) = true := decide_eq_true c7
                clear c7
                have H' := Aside0.mk H
                clear H
                have p8 : 0 ≤ (x6_1 : Int) := of_decide_eq_true (by first | (with_reducible assumption) | assumption)
                have q8 : x6_1 < (a1.size : Int) := of_decide_eq_true (by first | (with_reducible assumption) | assumption)
                have hx8 := bt_at a1 x6_1
                replace p8 := eq_true p8
                replace q8 := eq_true q8
                go_wp2
                go_meet
                case rel => exact ⟨_, (((bt a1 x6_1) == 32)), (by first | rfl | (simp; done) | (simp [*]; done)), H', ⟨by have := HK1.out; first | omega | exact Nat.le_refl _⟩, by repeat (first | exact Drawn0.refl _ | apply Drawn0.step)⟩
              · rw [if_neg c7] at H
                exact absurd H (by simp)
            · rw [if_neg c6] at H
              exact absurd H (by simp)
        case rest =>
          clear HC4
          try clear c1
          try clear p2
          try clear c3
          try clear c3b0
          try clear c5
          try clear c5b0
          try clear c5b1
          try clear c6
          try clear c6b0
          try clear c7
          try clear c7b0
          try clear p8
          try clear q8
          try clear hx8
          try clear p2
          try clear p8
          try clear q8
          obtain ⟨kq, x22_3, rfl, HA, HJ3, ⟨mc3, rfl⟩⟩ := hcut
          cases kq with
          | zero => exact absurd HA.out (by simp [resolventref07_In.j1])
          | succ kj3 =>
            have H := HA.out
            clear HA
            simp only [resolventref07_In.j1] at H
            by_cases c9 : x22_3 = true
            · subst c9
              have H1 : (if x5_1.toList = a0.toList then (if x5_1.toList = ([] : List UInt8) then (resolventref07_In.l0 kj3 a0 a1 (⟨#[]⟩ : ByteArray) (wrap64 (x6_1 + 1))) else (some true)) else (resolventref07_In.l0 kj3 a0 a1 (⟨#[]⟩ : ByteArray) (wrap64 (x6_1 + 1)))) = some r := by rw [if_pos rfl] at H; exact H
              clear H
              have H := H1
              clear H1
              by_cases c10 : x5_1.toList = a0.toList
              · rw [if_pos c10] at H
                have c10b0 : (x5_1.toList == a0.toList) = true := beq_iff_eq.mpr c10
                have c10b1 : (x5_1.toList != a0.toList) = false := bne_eq_false_iff_eq.mpr c10
                clear c10
                by_cases c11 : x5_1.toList = ([] : List UInt8)
                · rw [if_pos c11] at H
                  have c11b0 : (x5_1.toList == ([] : List UInt8)) = true := beq_iff_eq.mpr c11
                  have c11b1 : (x5_1.toList != ([] : List UInt8)) = false := bne_eq_false_iff_eq.mpr c11
                  clear c11
                  have H' := Aside0.mk H
                  clear H
                  go_wp2
                  go_roundg kj3
                  case measure => have := HK1.out; have := HJ3.out; omega
                  case rel => exact ⟨((⟨#[]⟩ : ByteArray)), (wrap64 (x6_1 + 1)), (by first | rfl | (simp; done) | (simp [*]; done)), (by first | rfl | (simp; done) | (simp [*]; done)), H', ⟨by have := HK1.out; have := HJ3.out; omega⟩, by repeat (first | exact Drawn0.refl _ | apply Drawn0.step)⟩
                · rw [if_neg c11] at H
                  have c11b0 : (x5_1.toList == ([] : List UInt8)) = false := beq_eq_false_iff_ne.mpr c11
                  have c11b1 : (x5_1.toList != ([] : List UInt8)) = true := bne_iff_ne.mpr c11
                  obtain rfl := Option.some.inj H
                  go_wp2
                  go_ret
                  exact ⟨by first | rfl | (simp; done) | (simp [*]; done), by repeat (first | exact Drawn0.refl _ | apply Drawn0.step)⟩
              · rw [if_neg c10] at H
                have c10b0 : (x5_1.toList == a0.toList) = false := beq_eq_false_iff_ne.mpr c10
                have c10b1 : (x5_1.toList != a0.toList) = true := bne_iff_ne.mpr c10
                have H' := Aside0.mk H
                clear H
                go_wp2
                go_roundg kj3
                case measure => have := HK1.out; have := HJ3.out; omega
                case rel => exact ⟨((⟨#[]⟩ : ByteArray)), (wrap64 (x6_1 + 1)), (by first | rfl | (simp; done) | (simp [*]; done)), (by first | rfl | (simp; done) | (simp [*]; done)), H', ⟨by have := HK1.out; have := HJ3.out; omega⟩, by repeat (first | exact Drawn0.refl _ | apply Drawn0.step)⟩
            · replace c9 := Bool.eq_false_iff.mpr c9
              subst c9
              have H1 : (if 0 ≤ x6_1 then (if x6_1 ≤ (wrap64 (x6_1 + 1)) then (if (wrap64 (x6_1 + 1)) ≤ (a1.size : Int) then (if x5_1.size + (a1.extract (x6_1 : Int).toNat ((wrap64 (x6_1 + 1)) : Int).toNat).size ≤ 9223372036854775807 then (resolventref07_In.l0 kj3 a0 a1 (x5_1 ++ (a1.extract (x6_1 : Int).toNat ((wrap64 (x6_1 + 1)) : Int).toNat)) (wrap64 (x6_1 + 1))) else (none)) else (none)) else (none)) else (none)) = some r := by rw [if_neg (show ¬ (false = true) by decide)] at H; exact H
              clear H
              have H := H1
              clear H1
              by_cases c12 : 0 ≤ x6_1
              · rw [if_pos c12] at H
                have c12b0 := eq_true c12
                have c12b1 : decide (0 ≤ x6_1) = true := decide_eq_true c12
                clear c12
                by_cases c13 : x6_1 ≤ (wrap64 (x6_1 + 1))
                · rw [if_pos c13] at H
                  have c13b0 := eq_true c13
                  have c13b1 : decide (x6_1 ≤ (wrap64 (x6_1 + 1))) = true := decide_eq_true c13
                  by_cases c14 : (wrap64 (x6_1 + 1)) ≤ (a1.size : Int)
                  · rw [if_pos c14] at H
                    have c14b0 := eq_true c14
                    have c14b1 : decide ((wrap64 (x6_1 + 1)) ≤ (a1.size : Int)) = true := decide_eq_true c14
                    by_cases c15 : x5_1.size + (a1.extract (x6_1 : Int).toNat ((wrap64 (x6_1 + 1)) : Int).toNat).size ≤ 9223372036854775807
                    · rw [if_pos c15] at H
                      have c15b0 := eq_true c15
                      have c15b1 : decide (x5_1.size + (a1.extract (x6_1 : Int).toNat ((wrap64 (x6_1 + 1)) : Int).toNat).size ≤ 9223372036854775807) = true := decide_eq_true c15
                      try have c15b2 : (9223372036854775807 < x5_1.size + (a1.extract (x6_1 : Int).toNat ((wrap64 (x6_1 + 1)) : Int).toNat).size) = False := eq_false (Nat.not_lt.2 c15)
                      have H' := Aside0.mk H
                      clear H
                      go_wp2
                      go_roundg kj3
                      case measure => have := HK1.out; have := HJ3.out; omega
                      case rel => exact ⟨(x5_1 ++ (a1.extract (x6_1 : Int).toNat ((wrap64 (x6_1 + 1)) : Int).toNat)), (wrap64 (x6_1 + 1)), (by first | rfl | (simp; done) | (simp [*]; done)), (by first | rfl | (simp; done) | (simp [*]; done)), H', ⟨by have := HK1.out; have := HJ3.out; omega⟩, by repeat (first | exact Drawn0.refl _ | apply Drawn0.step)⟩
                    · rw [if_neg c15] at H
                      exact absurd H (by simp)
                  · rw [if_neg c14] at H
                    exact absurd H (by simp)
                · rw [if_neg c13] at H
                  exact absurd H (by simp)
              · rw [if_neg c12] at H
                exact absurd H (by simp)
      · rw [if_neg c3] at H
        have c3b0 : decide (x6_1 ≤ (a1.size : Int)) = false := decide_eq_false c3
        clear c3
        obtain rfl := Option.some.inj H
        go_wp2
        go_ret
        exact ⟨by first | rfl | (simp; done) | (simp [*]; done), by repeat (first | exact Drawn0.refl _ | apply Drawn0.step)⟩

end Go.Proofs.YtecjdjdfikcliaaGreatDoor.P
end
section
-- Written by a program (p2.py over the kit's print). Not trusted: Lean checks it.
namespace Go.Proofs.YtecjdjdfikcliaaGreatDoor.P
open Go.RowKit Go.Proofs.YtecjdjdfikcliaaGreatDoorW.PrintWords Go.Proofs.YtecjdjdfikcliaaGreatDoorW.PrintLast Go.Proofs.YtecjdjdfikcliaaGreatDoorW.PrintMore
attribute [local go_sem] max2_int min2_int max_two min_two max_three min_three max_four min_four   -- for this text's walks alone
set_option linter.unusedVariables false
set_option linter.unusedSimpArgs false

/-! ### resolventref07_Infix: function 7 -/
def resolventref07_Infix.f (k : Nat) (a0 : ByteArray) : Option (Int × Int × Int × Bool) := if a0.toList = ([58, 45] : List UInt8) then (some (1200, 1199, 1199, true)) else (if a0.toList = ([59] : List UInt8) then (some (1100, 1099, 1100, true)) else (if a0.toList = ([45, 62] : List UInt8) then (some (1050, 1049, 1050, true)) else (if a0.toList = ([44] : List UInt8) then (some (1000, 999, 1000, true)) else ((resolventref07_In.f k a0 (⟨#[61, 32, 92, 61, 32, 61, 61, 32, 92, 61, 61, 32, 64, 60, 32, 64, 62, 32, 64, 61, 60, 32, 64, 62, 61, 32, 105, 115, 32, 61, 58, 61, 32, 61, 92, 61, 32, 60, 32, 62, 32, 61, 60, 32, 62, 61]⟩ : ByteArray)).bind fun t135 => (if t135 = true then (some (700, 699, 699, true)) else ((resolventref07_In.f k a0 (⟨#[43, 32, 45]⟩ : ByteArray)).bind fun t136 => (if t136 = true then (some (500, 500, 499, true)) else ((resolventref07_In.f k a0 (⟨#[42, 32, 47, 47, 32, 114, 101, 109, 32, 109, 111, 100]⟩ : ByteArray)).bind fun t137 => (if t137 = true then (some (400, 400, 399, true)) else (some (0, 0, 0, false)))))))))))
theorem resolventref07_Infix.mono : ∀ a0 k, LeO (resolventref07_Infix.f k a0) (resolventref07_Infix.f (k + 1) a0) := by
  intro a0 k
  unfold resolventref07_Infix.f
  repeat' first
      | (with_reducible exact resolventref07_In.mono _ _ _)
      | (with_reducible exact LeO.refl _)
      | (with_reducible exact LeO.none _)
      | (with_reducible refine LeO.ite ?_ ?_)
      | (with_reducible refine LeO.bind ?_ (fun _ => ?_))
      | exact resolventref07_In.mono _ _ _
      | exact LeO.none _
      | refine LeO.ite ?_ ?_
      | refine LeO.bind ?_ (fun _ => ?_)
set_option maxHeartbeats 8000000 in
set_option maxRecDepth 100000 in
theorem resolventref07_Infix.calls (k : Nat) (a0 : ByteArray) (r1 : Int) (r2 : Int) (r3 : Int) (r4 : Bool) (w : World) (h : resolventref07_Infix.f k a0 = some (r1, r2, r3, r4)) :
    Calls Tryz.prog 7 #[.string a0] w fun e w' => e = .returned (.tuple #[.int .i64 r1, .int .i64 r2, .int .i64 r3, .bool r4]) ∧ Drawn0 w w' := by
  have H : (if a0.toList = ([58, 45] : List UInt8) then (some (1200, 1199, 1199, true)) else (if a0.toList = ([59] : List UInt8) then (some (1100, 1099, 1100, true)) else (if a0.toList = ([45, 62] : List UInt8) then (some (1050, 1049, 1050, true)) else (if a0.toList = ([44] : List UInt8) then (some (1000, 999, 1000, true)) else ((resolventref07_In.f k a0 (⟨#[61, 32, 92, 61, 32, 61, 61, 32, 92, 61, 61, 32, 64, 60, 32, 64, 62, 32, 64, 61, 60, 32, 64, 62, 61, 32, 105, 115, 32, 61, 58, 61, 32, 61, 92, 61, 32, 60, 32, 62, 32, 61, 60, 32, 62, 61]⟩ : ByteArray)).bind fun t135 => (if t135 = true then (some (700, 699, 699, true)) else ((resolventref07_In.f k a0 (⟨#[43, 32, 45]⟩ : ByteArray)).bind fun t136 => (if t136 = true then (some (500, 500, 499, true)) else ((resolventref07_In.f k a0 (⟨#[42, 32, 47, 47, 32, 114, 101, 109, 32, 109, 111, 100]⟩ : ByteArray)).bind fun t137 => (if t137 = true then (some (400, 400, 399, true)) else (some (0, 0, 0, false)))))))))))) = some (r1, r2, r3, r4) := h
  clear h
  by_cases c2 : a0.toList = ([58, 45] : List UInt8)
  · rw [if_pos c2] at H
    have c2b0 : (a0.toList == ([58, 45] : List UInt8)) = true := beq_iff_eq.mpr c2
    have c2b1 : (a0.toList != ([58, 45] : List UInt8)) = false := bne_eq_false_iff_eq.mpr c2
    clear c2
    simp only [Option.some.injEq, Prod.mk.injEq] at H
    obtain ⟨rfl, rfl, rfl, rfl⟩ := H
    go_enter Tryz.func7, Tryz.ntmps7
    go_wp2
    refine bodyPost_ret (results_list (rs := [.tmp 2, .tmp 3, .tmp 4, .tmp 5]) rfl (by simp) (.tmp (.tmp (.tmp (.tmp .nil))))) rfl ?_
    exact ⟨by first | rfl | (simp; done) | (simp [*]; done), by repeat (first | exact Drawn0.refl _ | apply Drawn0.step)⟩
  · rw [if_neg c2] at H
    have c2b0 : (a0.toList == ([58, 45] : List UInt8)) = false := beq_eq_false_iff_ne.mpr c2
    have c2b1 : (a0.toList != ([58, 45] : List UInt8)) = true := bne_iff_ne.mpr c2
    by_cases c3 : a0.toList = ([59] : List UInt8)
    · rw [if_pos c3] at H
      have c3b0 : (a0.toList == ([59] : List UInt8)) = true := beq_iff_eq.mpr c3
      have c3b1 : (a0.toList != ([59] : List UInt8)) = false := bne_eq_false_iff_eq.mpr c3
      clear c3
      simp only [Option.some.injEq, Prod.mk.injEq] at H
      obtain ⟨rfl, rfl, rfl, rfl⟩ := H
      go_enter Tryz.func7, Tryz.ntmps7
      go_wp2
      refine bodyPost_ret (results_list (rs := [.tmp 2, .tmp 3, .tmp 4, .tmp 5]) rfl (by simp) (.tmp (.tmp (.tmp (.tmp .nil))))) rfl ?_
      exact ⟨by first | rfl | (simp; done) | (simp [*]; done), by repeat (first | exact Drawn0.refl _ | apply Drawn0.step)⟩
    · rw [if_neg c3] at H
      have c3b0 : (a0.toList == ([59] : List UInt8)) = false := beq_eq_false_iff_ne.mpr c3
      have c3b1 : (a0.toList != ([59] : List UInt8)) = true := bne_iff_ne.mpr c3
      by_cases c4 : a0.toList = ([45, 62] : List UInt8)
      · rw [if_pos c4] at H
        have c4b0 : (a0.toList == ([45, 62] : List UInt8)) = true := beq_iff_eq.mpr c4
        have c4b1 : (a0.toList != ([45, 62] : List UInt8)) = false := bne_eq_false_iff_eq.mpr c4
        clear c4
        simp only [Option.some.injEq, Prod.mk.injEq] at H
        obtain ⟨rfl, rfl, rfl, rfl⟩ := H
        go_enter Tryz.func7, Tryz.ntmps7
        go_wp2
        refine bodyPost_ret (results_list (rs := [.tmp 2, .tmp 3, .tmp 4, .tmp 5]) rfl (by simp) (.tmp (.tmp (.tmp (.tmp .nil))))) rfl ?_
        exact ⟨by first | rfl | (simp; done) | (simp [*]; done), by repeat (first | exact Drawn0.refl _ | apply Drawn0.step)⟩
      · rw [if_neg c4] at H
        have c4b0 : (a0.toList == ([45, 62] : List UInt8)) = false := beq_eq_false_iff_ne.mpr c4
        have c4b1 : (a0.toList != ([45, 62] : List UInt8)) = true := bne_iff_ne.mpr c4
        by_cases c5 : a0.toList = ([44] : List UInt8)
        · rw [if_pos c5] at H
          have c5b0 : (a0.toList == ([44] : List UInt8)) = true := beq_iff_eq.mpr c5
          have c5b1 : (a0.toList != ([44] : List UInt8)) = false := bne_eq_false_iff_eq.mpr c5
          clear c5
          simp only [Option.some.injEq, Prod.mk.injEq] at H
          obtain ⟨rfl, rfl, rfl, rfl⟩ := H
          go_enter Tryz.func7, Tryz.ntmps7
          go_wp2
          refine bodyPost_ret (results_list (rs := [.tmp 2, .tmp 3, .tmp 4, .tmp 5]) rfl (by simp) (.tmp (.tmp (.tmp (.tmp .nil))))) rfl ?_
          exact ⟨by first | rfl | (simp; done) | (simp [*]; done), by repeat (first | exact Drawn0.refl _ | apply Drawn0.step)⟩
        · rw [if_neg c5] at H
          have c5b0 : (a0.toList == ([44] : List UInt8)) = false := beq_eq_false_iff_ne.mpr c5
          have c5b1 : (a0.toList != ([44] : List UInt8)) = true := bne_iff_ne.mpr c5
          replace H := Option.bind_eq_some_iff.mp H
          obtain ⟨t135, A60, H⟩ := H
          replace H : (if t135 = true then (some (700, 699, 699, true)) else ((resolventref07_In.f k a0 (⟨#[43, 32, 45]⟩ : ByteArray)).bind fun t136 => (if t136 = true then (some (500, 500, 499, true)) else ((resolventref07_In.f k a0 (⟨#[42, 32, 47, 47, 32, 114, 101, 109, 32, 109, 111, 100]⟩ : ByteArray)).bind fun t137 => (if t137 = true then (some (400, 400, 399, true)) else (some (0, 0, 0, false))))))) = some (r1, r2, r3, r4) := H
          have A6 := Aside0.mk A60
          clear A60
          by_cases c7 : t135 = true
          · subst c7
            have H1 : (some (700, 699, 699, true)) = some (r1, r2, r3, r4) := by rw [if_pos rfl] at H; exact H
            clear H
            have H := H1
            clear H1
            simp only [Option.some.injEq, Prod.mk.injEq] at H
            obtain ⟨rfl, rfl, rfl, rfl⟩ := H
            go_enter Tryz.func7, Tryz.ntmps7
            go_wp2_with (first | ((with_reducible refine gate_callee (f := 19) rfl ?_); refine goesL_ (some 20) rfl rfl Tryz.func19 (by kernel_rfl) rfl #[.string a0, .string (⟨#[61, 32, 92, 61, 32, 61, 61, 32, 92, 61, 61, 32, 64, 60, 32, 64, 62, 32, 64, 61, 60, 32, 64, 62, 61, 32, 105, 115, 32, 61, 58, 61, 32, 61, 92, 61, 32, 60, 32, 62, 32, 61, 60, 32, 62, 61]⟩ : ByteArray)] rfl (by (try simp only [List.map_toArray, List.map_cons, List.map_nil]); first | done | rfl | (simp only [List.length_drop, List.length_take]; rfl) | (simp only [Go.Proofs.YtecjdjdfikcliaaGreatDoor.ba_from_size]; rfl)) ?_; (with_reducible refine (resolventref07_In.calls k a0 (⟨#[61, 32, 92, 61, 32, 61, 61, 32, 92, 61, 61, 32, 64, 60, 32, 64, 62, 32, 64, 61, 60, 32, 64, 62, 61, 32, 105, 115, 32, 61, 58, 61, 32, 61, 92, 61, 32, 60, 32, 62, 32, 61, 60, 32, 62, 61]⟩ : ByteArray) true _ A6.out).mono ?_); rintro e w' ⟨rfl, ⟨nd, rfl⟩⟩; refine ⟨_, rfl, ?_⟩))
            refine bodyPost_ret (results_list (rs := [.tmp 2, .tmp 3, .tmp 4, .tmp 5]) rfl (by simp) (.tmp (.tmp (.tmp (.tmp .nil))))) rfl ?_
            exact ⟨by first | rfl | (simp; done) | (simp [*]; done), by repeat (first | exact Drawn0.refl _ | apply Drawn0.step)⟩
          · replace c7 := Bool.eq_false_iff.mpr c7
            subst c7
            have H1 : ((resolventref07_In.f k a0 (⟨#[43, 32, 45]⟩ : ByteArray)).bind fun t136 => (if t136 = true then (some (500, 500, 499, true)) else ((resolventref07_In.f k a0 (⟨#[42, 32, 47, 47, 32, 114, 101, 109, 32, 109, 111, 100]⟩ : ByteArray)).bind fun t137 => (if t137 = true then (some (400, 400, 399, true)) else (some (0, 0, 0, false)))))) = some (r1, r2, r3, r4) := by rw [if_neg (show ¬ (false = true) by decide)] at H; exact H
            clear H
            have H := H1
            clear H1
            replace H := Option.bind_eq_some_iff.mp H
            obtain ⟨t136, A80, H⟩ := H
            replace H : (if t136 = true then (some (500, 500, 499, true)) else ((resolventref07_In.f k a0 (⟨#[42, 32, 47, 47, 32, 114, 101, 109, 32, 109, 111, 100]⟩ : ByteArray)).bind fun t137 => (if t137 = true then (some (400, 400, 399, true)) else (some (0, 0, 0, false))))) = some (r1, r2, r3, r4) := H
            have A8 := Aside0.mk A80
            clear A80
            by_cases c9 : t136 = true
            · subst c9
              have H1 : (some (500, 500, 499, true)) = some (r1, r2, r3, r4) := by rw [if_pos rfl] at H; exact H
              clear H
              have H := H1
              clear H1
              simp only [Option.some.injEq, Prod.mk.injEq] at H
              obtain ⟨rfl, rfl, rfl, rfl⟩ := H
              go_enter Tryz.func7, Tryz.ntmps7
              go_wp2_with (first | ((with_reducible refine gate_callee (f := 19) rfl ?_); refine goesL_ (some 20) rfl rfl Tryz.func19 (by kernel_rfl) rfl #[.string a0, .string (⟨#[61, 32, 92, 61, 32, 61, 61, 32, 92, 61, 61, 32, 64, 60, 32, 64, 62, 32, 64, 61, 60, 32, 64, 62, 61, 32, 105, 115, 32, 61, 58, 61, 32, 61, 92, 61, 32, 60, 32, 62, 32, 61, 60, 32, 62, 61]⟩ : ByteArray)] rfl (by (try simp only [List.map_toArray, List.map_cons, List.map_nil]); first | done | rfl | (simp only [List.length_drop, List.length_take]; rfl) | (simp only [Go.Proofs.YtecjdjdfikcliaaGreatDoor.ba_from_size]; rfl)) ?_; (with_reducible refine (resolventref07_In.calls k a0 (⟨#[61, 32, 92, 61, 32, 61, 61, 32, 92, 61, 61, 32, 64, 60, 32, 64, 62, 32, 64, 61, 60, 32, 64, 62, 61, 32, 105, 115, 32, 61, 58, 61, 32, 61, 92, 61, 32, 60, 32, 62, 32, 61, 60, 32, 62, 61]⟩ : ByteArray) false _ A6.out).mono ?_); rintro e w' ⟨rfl, ⟨nd, rfl⟩⟩; refine ⟨_, rfl, ?_⟩) | ((with_reducible refine gate_callee (f := 19) rfl ?_); refine goesL_ (some 23) rfl rfl Tryz.func19 (by kernel_rfl) rfl #[.string a0, .string (⟨#[43, 32, 45]⟩ : ByteArray)] rfl (by (try simp only [List.map_toArray, List.map_cons, List.map_nil]); first | done | rfl | (simp only [List.length_drop, List.length_take]; rfl) | (simp only [Go.Proofs.YtecjdjdfikcliaaGreatDoor.ba_from_size]; rfl)) ?_; (with_reducible refine (resolventref07_In.calls k a0 (⟨#[43, 32, 45]⟩ : ByteArray) true _ A8.out).mono ?_); rintro e w' ⟨rfl, ⟨nd, rfl⟩⟩; refine ⟨_, rfl, ?_⟩))
              refine bodyPost_ret (results_list (rs := [.tmp 2, .tmp 3, .tmp 4, .tmp 5]) rfl (by simp) (.tmp (.tmp (.tmp (.tmp .nil))))) rfl ?_
              exact ⟨by first | rfl | (simp; done) | (simp [*]; done), by repeat (first | exact Drawn0.refl _ | apply Drawn0.step)⟩
            · replace c9 := Bool.eq_false_iff.mpr c9
              subst c9
              have H1 : ((resolventref07_In.f k a0 (⟨#[42, 32, 47, 47, 32, 114, 101, 109, 32, 109, 111, 100]⟩ : ByteArray)).bind fun t137 => (if t137 = true then (some (400, 400, 399, true)) else (some (0, 0, 0, false)))) = some (r1, r2, r3, r4) := by rw [if_neg (show ¬ (false = true) by decide)] at H; exact H
              clear H
              have H := H1
              clear H1
              replace H := Option.bind_eq_some_iff.mp H
              obtain ⟨t137, A100, H⟩ := H
              replace H : (if t137 = true then (some (400, 400, 399, true)) else (some (0, 0, 0, false))) = some (r1, r2, r3, r4) := H
              have A10 := Aside0.mk A100
              clear A100
              by_cases c11 : t137 = true
              · subst c11
                have H1 : (some (400, 400, 399, true)) = some (r1, r2, r3, r4) := by rw [if_pos rfl] at H; exact H
                clear H
                have H := H1
                clear H1
                simp only [Option.some.injEq, Prod.mk.injEq] at H
                obtain ⟨rfl, rfl, rfl, rfl⟩ := H
                go_enter Tryz.func7, Tryz.ntmps7
                go_wp2_with (first | ((with_reducible refine gate_callee (f := 19) rfl ?_); refine goesL_ (some 20) rfl rfl Tryz.func19 (by kernel_rfl) rfl #[.string a0, .string (⟨#[61, 32, 92, 61, 32, 61, 61, 32, 92, 61, 61, 32, 64, 60, 32, 64, 62, 32, 64, 61, 60, 32, 64, 62, 61, 32, 105, 115, 32, 61, 58, 61, 32, 61, 92, 61, 32, 60, 32, 62, 32, 61, 60, 32, 62, 61]⟩ : ByteArray)] rfl (by (try simp only [List.map_toArray, List.map_cons, List.map_nil]); first | done | rfl | (simp only [List.length_drop, List.length_take]; rfl) | (simp only [Go.Proofs.YtecjdjdfikcliaaGreatDoor.ba_from_size]; rfl)) ?_; (with_reducible refine (resolventref07_In.calls k a0 (⟨#[61, 32, 92, 61, 32, 61, 61, 32, 92, 61, 61, 32, 64, 60, 32, 64, 62, 32, 64, 61, 60, 32, 64, 62, 61, 32, 105, 115, 32, 61, 58, 61, 32, 61, 92, 61, 32, 60, 32, 62, 32, 61, 60, 32, 62, 61]⟩ : ByteArray) false _ A6.out).mono ?_); rintro e w' ⟨rfl, ⟨nd, rfl⟩⟩; refine ⟨_, rfl, ?_⟩) | ((with_reducible refine gate_callee (f := 19) rfl ?_); refine goesL_ (some 23) rfl rfl Tryz.func19 (by kernel_rfl) rfl #[.string a0, .string (⟨#[43, 32, 45]⟩ : ByteArray)] rfl (by (try simp only [List.map_toArray, List.map_cons, List.map_nil]); first | done | rfl | (simp only [List.length_drop, List.length_take]; rfl) | (simp only [Go.Proofs.YtecjdjdfikcliaaGreatDoor.ba_from_size]; rfl)) ?_; (with_reducible refine (resolventref07_In.calls k a0 (⟨#[43, 32, 45]⟩ : ByteArray) false _ A8.out).mono ?_); rintro e w' ⟨rfl, ⟨nd, rfl⟩⟩; refine ⟨_, rfl, ?_⟩) | ((with_reducible refine gate_callee (f := 19) rfl ?_); refine goesL_ (some 26) rfl rfl Tryz.func19 (by kernel_rfl) rfl #[.string a0, .string (⟨#[42, 32, 47, 47, 32, 114, 101, 109, 32, 109, 111, 100]⟩ : ByteArray)] rfl (by (try simp only [List.map_toArray, List.map_cons, List.map_nil]); first | done | rfl | (simp only [List.length_drop, List.length_take]; rfl) | (simp only [Go.Proofs.YtecjdjdfikcliaaGreatDoor.ba_from_size]; rfl)) ?_; (with_reducible refine (resolventref07_In.calls k a0 (⟨#[42, 32, 47, 47, 32, 114, 101, 109, 32, 109, 111, 100]⟩ : ByteArray) true _ A10.out).mono ?_); rintro e w' ⟨rfl, ⟨nd, rfl⟩⟩; refine ⟨_, rfl, ?_⟩))
                refine bodyPost_ret (results_list (rs := [.tmp 2, .tmp 3, .tmp 4, .tmp 5]) rfl (by simp) (.tmp (.tmp (.tmp (.tmp .nil))))) rfl ?_
                exact ⟨by first | rfl | (simp; done) | (simp [*]; done), by repeat (first | exact Drawn0.refl _ | apply Drawn0.step)⟩
              · replace c11 := Bool.eq_false_iff.mpr c11
                subst c11
                have H1 : (some (0, 0, 0, false)) = some (r1, r2, r3, r4) := by rw [if_neg (show ¬ (false = true) by decide)] at H; exact H
                clear H
                have H := H1
                clear H1
                simp only [Option.some.injEq, Prod.mk.injEq] at H
                obtain ⟨rfl, rfl, rfl, rfl⟩ := H
                go_enter Tryz.func7, Tryz.ntmps7
                go_wp2_with (first | ((with_reducible refine gate_callee (f := 19) rfl ?_); refine goesL_ (some 20) rfl rfl Tryz.func19 (by kernel_rfl) rfl #[.string a0, .string (⟨#[61, 32, 92, 61, 32, 61, 61, 32, 92, 61, 61, 32, 64, 60, 32, 64, 62, 32, 64, 61, 60, 32, 64, 62, 61, 32, 105, 115, 32, 61, 58, 61, 32, 61, 92, 61, 32, 60, 32, 62, 32, 61, 60, 32, 62, 61]⟩ : ByteArray)] rfl (by (try simp only [List.map_toArray, List.map_cons, List.map_nil]); first | done | rfl | (simp only [List.length_drop, List.length_take]; rfl) | (simp only [Go.Proofs.YtecjdjdfikcliaaGreatDoor.ba_from_size]; rfl)) ?_; (with_reducible refine (resolventref07_In.calls k a0 (⟨#[61, 32, 92, 61, 32, 61, 61, 32, 92, 61, 61, 32, 64, 60, 32, 64, 62, 32, 64, 61, 60, 32, 64, 62, 61, 32, 105, 115, 32, 61, 58, 61, 32, 61, 92, 61, 32, 60, 32, 62, 32, 61, 60, 32, 62, 61]⟩ : ByteArray) false _ A6.out).mono ?_); rintro e w' ⟨rfl, ⟨nd, rfl⟩⟩; refine ⟨_, rfl, ?_⟩) | ((with_reducible refine gate_callee (f := 19) rfl ?_); refine goesL_ (some 23) rfl rfl Tryz.func19 (by kernel_rfl) rfl #[.string a0, .string (⟨#[43, 32, 45]⟩ : ByteArray)] rfl (by (try simp only [List.map_toArray, List.map_cons, List.map_nil]); first | done | rfl | (simp only [List.length_drop, List.length_take]; rfl) | (simp only [Go.Proofs.YtecjdjdfikcliaaGreatDoor.ba_from_size]; rfl)) ?_; (with_reducible refine (resolventref07_In.calls k a0 (⟨#[43, 32, 45]⟩ : ByteArray) false _ A8.out).mono ?_); rintro e w' ⟨rfl, ⟨nd, rfl⟩⟩; refine ⟨_, rfl, ?_⟩) | ((with_reducible refine gate_callee (f := 19) rfl ?_); refine goesL_ (some 26) rfl rfl Tryz.func19 (by kernel_rfl) rfl #[.string a0, .string (⟨#[42, 32, 47, 47, 32, 114, 101, 109, 32, 109, 111, 100]⟩ : ByteArray)] rfl (by (try simp only [List.map_toArray, List.map_cons, List.map_nil]); first | done | rfl | (simp only [List.length_drop, List.length_take]; rfl) | (simp only [Go.Proofs.YtecjdjdfikcliaaGreatDoor.ba_from_size]; rfl)) ?_; (with_reducible refine (resolventref07_In.calls k a0 (⟨#[42, 32, 47, 47, 32, 114, 101, 109, 32, 109, 111, 100]⟩ : ByteArray) false _ A10.out).mono ?_); rintro e w' ⟨rfl, ⟨nd, rfl⟩⟩; refine ⟨_, rfl, ?_⟩))
                refine bodyPost_ret (results_list (rs := [.tmp 2, .tmp 3, .tmp 4, .tmp 5]) rfl (by simp) (.tmp (.tmp (.tmp (.tmp .nil))))) rfl ?_
                exact ⟨by first | rfl | (simp; done) | (simp [*]; done), by repeat (first | exact Drawn0.refl _ | apply Drawn0.step)⟩

end Go.Proofs.YtecjdjdfikcliaaGreatDoor.P
end
section
-- Written by a program (p2.py over the kit's print). Not trusted: Lean checks it.
namespace Go.Proofs.YtecjdjdfikcliaaGreatDoor.P
open Go.RowKit Go.Proofs.YtecjdjdfikcliaaGreatDoorW.PrintWords Go.Proofs.YtecjdjdfikcliaaGreatDoorW.PrintLast Go.Proofs.YtecjdjdfikcliaaGreatDoorW.PrintMore
attribute [local go_sem] max2_int min2_int max_two min_two max_three min_three max_four min_four   -- for this text's walks alone
set_option linter.unusedVariables false
set_option linter.unusedSimpArgs false

/-! ### resolventref07_Prefix: function 9 -/
def resolventref07_Prefix.f (a0 : ByteArray) : Option (Int × Int × Bool) := if a0.toList = ([58, 45] : List UInt8) then (some (1200, 1199, true)) else (if a0.toList = ([92, 43] : List UInt8) then (some (900, 900, true)) else (if a0.toList = ([45] : List UInt8) then (some (200, 200, true)) else (some (0, 0, false))))
set_option maxHeartbeats 8000000 in
set_option maxRecDepth 100000 in
theorem resolventref07_Prefix.calls (a0 : ByteArray) (r1 : Int) (r2 : Int) (r3 : Bool) (w : World) (h : resolventref07_Prefix.f a0 = some (r1, r2, r3)) :
    Calls Tryz.prog 9 #[.string a0] w fun e w' => e = .returned (.tuple #[.int .i64 r1, .int .i64 r2, .bool r3]) ∧ Drawn0 w w' := by
  have H : (if a0.toList = ([58, 45] : List UInt8) then (some (1200, 1199, true)) else (if a0.toList = ([92, 43] : List UInt8) then (some (900, 900, true)) else (if a0.toList = ([45] : List UInt8) then (some (200, 200, true)) else (some (0, 0, false))))) = some (r1, r2, r3) := h
  clear h
  by_cases c2 : a0.toList = ([58, 45] : List UInt8)
  · rw [if_pos c2] at H
    have c2b0 : (a0.toList == ([58, 45] : List UInt8)) = true := beq_iff_eq.mpr c2
    have c2b1 : (a0.toList != ([58, 45] : List UInt8)) = false := bne_eq_false_iff_eq.mpr c2
    clear c2
    simp only [Option.some.injEq, Prod.mk.injEq] at H
    obtain ⟨rfl, rfl, rfl⟩ := H
    go_enter Tryz.func9, Tryz.ntmps9
    go_wp2
    go_ret3
    exact ⟨by first | rfl | (simp; done) | (simp [*]; done), by repeat (first | exact Drawn0.refl _ | apply Drawn0.step)⟩
  · rw [if_neg c2] at H
    have c2b0 : (a0.toList == ([58, 45] : List UInt8)) = false := beq_eq_false_iff_ne.mpr c2
    have c2b1 : (a0.toList != ([58, 45] : List UInt8)) = true := bne_iff_ne.mpr c2
    by_cases c3 : a0.toList = ([92, 43] : List UInt8)
    · rw [if_pos c3] at H
      have c3b0 : (a0.toList == ([92, 43] : List UInt8)) = true := beq_iff_eq.mpr c3
      have c3b1 : (a0.toList != ([92, 43] : List UInt8)) = false := bne_eq_false_iff_eq.mpr c3
      clear c3
      simp only [Option.some.injEq, Prod.mk.injEq] at H
      obtain ⟨rfl, rfl, rfl⟩ := H
      go_enter Tryz.func9, Tryz.ntmps9
      go_wp2
      go_ret3
      exact ⟨by first | rfl | (simp; done) | (simp [*]; done), by repeat (first | exact Drawn0.refl _ | apply Drawn0.step)⟩
    · rw [if_neg c3] at H
      have c3b0 : (a0.toList == ([92, 43] : List UInt8)) = false := beq_eq_false_iff_ne.mpr c3
      have c3b1 : (a0.toList != ([92, 43] : List UInt8)) = true := bne_iff_ne.mpr c3
      by_cases c4 : a0.toList = ([45] : List UInt8)
      · rw [if_pos c4] at H
        have c4b0 : (a0.toList == ([45] : List UInt8)) = true := beq_iff_eq.mpr c4
        have c4b1 : (a0.toList != ([45] : List UInt8)) = false := bne_eq_false_iff_eq.mpr c4
        clear c4
        simp only [Option.some.injEq, Prod.mk.injEq] at H
        obtain ⟨rfl, rfl, rfl⟩ := H
        go_enter Tryz.func9, Tryz.ntmps9
        go_wp2
        go_ret3
        exact ⟨by first | rfl | (simp; done) | (simp [*]; done), by repeat (first | exact Drawn0.refl _ | apply Drawn0.step)⟩
      · rw [if_neg c4] at H
        have c4b0 : (a0.toList == ([45] : List UInt8)) = false := beq_eq_false_iff_ne.mpr c4
        have c4b1 : (a0.toList != ([45] : List UInt8)) = true := bne_iff_ne.mpr c4
        simp only [Option.some.injEq, Prod.mk.injEq] at H
        obtain ⟨rfl, rfl, rfl⟩ := H
        go_enter Tryz.func9, Tryz.ntmps9
        go_wp2
        go_ret3
        exact ⟨by first | rfl | (simp; done) | (simp [*]; done), by repeat (first | exact Drawn0.refl _ | apply Drawn0.step)⟩

end Go.Proofs.YtecjdjdfikcliaaGreatDoor.P
end
section
/-
  The document's In, Infix, Prefix, as the print tells them, are the plain ones.
-/
namespace Go.Proofs.YtecjdjdfikcliaaGreatDoor.Pr
open Go Go.Proofs.YtecjdjdfikcliaaGreatDoor
open Go.RowKit Go.Proofs.YtecjdjdfikcliaaGreatDoor.P Go.Proofs.YtecjdjdfikcliaaGreatDoorW.PrintWords Go.Proofs.YtecjdjdfikcliaaGreatDoorW.PrintLast

/-- From some number of rounds on. -/
def Ev {α : Type} (f : Nat → Option α) (r : α) : Prop := ∃ k, ∀ n, k ≤ n → f n = some r
theorem Ev.step {α : Type} {f g : Nat → Option α} {r : α} (h : Ev g r) (e : ∀ n, f (n + 1) = g n) : Ev f r := by
  obtain ⟨k, hk⟩ := h
  refine ⟨k + 1, fun n hn => ?_⟩
  obtain ⟨m, rfl⟩ : ∃ m, n = m + 1 := ⟨n - 1, by omega⟩
  rw [e]; exact hk m (by omega)
theorem Ev.now {α : Type} {f : Nat → Option α} {r : α} (e : ∀ n, f (n + 1) = some r) : Ev f r :=
  ⟨1, fun n hn => by obtain ⟨m, rfl⟩ : ∃ m, n = m + 1 := ⟨n - 1, by omega⟩; exact e m⟩

theorem tl (s : ByteArray) : s.toList = bl s := ByteArray.toList_eq s
theorem at_dropI (x : ByteArray) (i : Nat) (h : i < x.size) : ∃ b, (bl x).drop i = b :: (bl x).drop (i + 1) ∧ bt x (i : Int) = (b.toNat : Int) ∧ bl (x.extract (i : Int).toNat ((i + 1 : Nat) : Int).toNat) = [b] := by
  have e := List.drop_eq_getElem_cons (l := bl x) (i := i) (by rw [bl_length]; exact h)
  refine ⟨x[i], ?_, ?_, ?_⟩
  · rw [e]; rfl
  · unfold bt
    rw [dif_pos (by simpa using h)]; rfl
  · rw [Int.toNat_natCast, Int.toNat_natCast, bl_extract, List.drop_take, e, Nat.add_sub_cancel_left]
    rfl
theorem bl_append (s t : ByteArray) : bl (s ++ t) = bl s ++ bl t := by simp [bl]

theorem In_ev (n all : ByteArray) (hall : all.size ≤ 1000) : ∀ (m i : Nat) (wd : ByteArray), i ≤ all.size → all.size - i ≤ m → wd.size ≤ i → Ev (fun k => resolventref07_In.l0 k n all wd (i : Int)) (inL (bl n) ((bl all).drop i) (bl wd)) := by
  have hend : ∀ wd, Ev (fun k => resolventref07_In.l0 k n all wd ((all.size + 1 : Nat) : Int)) false := fun wd => by
    refine Ev.now fun k => ?_
    simp only [resolventref07_In.l0]
    rw [if_neg (by omega)]
  intro m
  induction m with
  | zero =>
    intro i wd hi hm hw
    obtain rfl : i = all.size := by omega
    have hw1 : wrap64 ((all.size : Int) + 1) = ((all.size + 1 : Nat) : Int) := by unfold wrap64; omega
    rw [List.drop_eq_nil_of_le (by rw [bl_length]; exact Nat.le_refl _)]
    refine Ev.step (g := fun k => resolventref07_In.j1 k n all wd (all.size : Int) true) ?_ (fun k => by simp only [resolventref07_In.l0]; rw [if_pos (Int.le_refl _), if_pos trivial])
    by_cases h1 : wd.toList = n.toList
    · by_cases h2 : wd.toList = ([] : List UInt8)
      · have e : inL (bl n) [] (bl wd) = false := by
          rw [tl] at h2
          simp [inL, h2]
        rw [e]
        refine Ev.step (hend ⟨#[]⟩) (fun k => ?_)
        simp only [resolventref07_In.j1]
        rw [if_pos trivial, if_pos h1, if_pos h2, hw1]
      · have e : inL (bl n) [] (bl wd) = true := by
          rw [tl] at h2
          rw [tl, tl] at h1
          simp [inL, h1, h1 ▸ h2]
        rw [e]
        refine Ev.now (fun k => ?_)
        simp only [resolventref07_In.j1]
        rw [if_pos trivial, if_pos h1, if_neg h2]
    · have e : inL (bl n) [] (bl wd) = false := by
        rw [tl, tl] at h1
        simp [inL, h1]
      rw [e]
      refine Ev.step (hend ⟨#[]⟩) (fun k => ?_)
      simp only [resolventref07_In.j1]
      rw [if_pos trivial, if_neg h1, hw1]
  | succ m ih =>
    intro i wd hi hm hw
    by_cases he : i = all.size
    · exact ih i wd hi (by omega) hw
    have hlt : i < all.size := by omega
    obtain ⟨b, hdrop, hb, hex⟩ := at_dropI all i hlt
    have hw1 : wrap64 ((i : Int) + 1) = ((i + 1 : Nat) : Int) := by unfold wrap64; omega
    rw [hdrop, inL]
    refine Ev.step (g := fun k => resolventref07_In.j1 k n all wd (i : Int) (bt all (i : Int) == 32)) ?_ (fun k => by simp only [resolventref07_In.l0]; rw [if_pos (by omega), if_neg (by omega), if_pos (by omega), if_pos (by omega)])
    by_cases h32 : b = 32
    · have t : (bt all (i : Int) == 32) = true := by rw [hb, h32]; rfl
      rw [if_pos h32]
      have nx := ih (i + 1) ⟨#[]⟩ (by omega) (by omega) (Nat.zero_le _)
      rw [t]
      by_cases h1 : wd.toList = n.toList
      · by_cases h2 : wd.toList = ([] : List UInt8)
        · rw [if_neg (by rw [tl] at h2; simp [h2])]
          refine Ev.step nx (fun k => ?_)
          simp only [resolventref07_In.j1]
          rw [if_pos trivial, if_pos h1, if_pos h2, hw1]
        · rw [if_pos (by rw [tl] at h2; rw [tl, tl] at h1; simp [h1, h1 ▸ h2])]
          refine Ev.now (fun k => ?_)
          simp only [resolventref07_In.j1]
          rw [if_pos trivial, if_pos h1, if_neg h2]
      · rw [if_neg (by rw [tl, tl] at h1; simp [h1])]
        refine Ev.step nx (fun k => ?_)
        simp only [resolventref07_In.j1]
        rw [if_pos trivial, if_neg h1, hw1]
    · have t : (bt all (i : Int) == 32) = false := by
        rw [hb]
        simp only [beq_eq_false_iff_ne]
        intro e
        exact h32 (UInt8.toNat_inj.1 (by have : (32 : UInt8).toNat = 32 := rfl; omega))
      rw [if_neg h32, t]
      have hsz : (all.extract (i : Int).toNat ((i + 1 : Nat) : Int).toNat).size = 1 := by
        have := congrArg List.length hex
        rw [bl_length] at this
        exact this
      have hsw : (wd ++ all.extract (i : Int).toNat ((i + 1 : Nat) : Int).toNat).size ≤ i + 1 := by
        rw [ByteArray.size_append, hsz]; omega
      have nx := ih (i + 1) (wd ++ all.extract (i : Int).toNat ((i + 1 : Nat) : Int).toNat) (by omega) (by omega) hsw
      rw [bl_append, hex] at nx
      refine Ev.step nx (fun k => ?_)
      simp only [resolventref07_In.j1]
      rw [if_neg (by decide), hw1, if_pos (by omega), if_pos (by omega), if_pos (by omega), if_pos (by rw [hsz]; omega)]

theorem In_f (n all : ByteArray) (hall : all.size ≤ 1000) : Ev (fun k => resolventref07_In.f k n all) (inL (bl n) (bl all) []) := In_ev n all hall all.size 0 ⟨#[]⟩ (Nat.zero_le _) (by omega) (Nat.zero_le _)

theorem Infix_f (n : ByteArray) : ∃ k, resolventref07_Infix.f k n = some (refI (bl n)) := by
  obtain ⟨ka, ha⟩ := In_f n ⟨#[61, 32, 92, 61, 32, 61, 61, 32, 92, 61, 61, 32, 64, 60, 32, 64, 62, 32, 64, 61, 60, 32, 64, 62, 61, 32, 105, 115, 32, 61, 58, 61, 32, 61, 92, 61, 32, 60, 32, 62, 32, 61, 60, 32, 62, 61]⟩ (by decide)
  obtain ⟨kb, hb⟩ := In_f n ⟨#[43, 32, 45]⟩ (by decide)
  obtain ⟨kc, hc⟩ := In_f n ⟨#[42, 32, 47, 47, 32, 114, 101, 109, 32, 109, 111, 100]⟩ (by decide)
  refine ⟨ka + kb + kc, ?_⟩
  unfold resolventref07_Infix.f refI
  rw [show resolventref07_In.f (ka + kb + kc) n _ = some _ from ha _ (by omega), show resolventref07_In.f (ka + kb + kc) n _ = some _ from hb _ (by omega), show resolventref07_In.f (ka + kb + kc) n _ = some _ from hc _ (by omega), tl]
  simp only [Option.bind_some]
  change _ = some (if bl n = [58, 45] then _ else if bl n = [59] then _ else if bl n = [45, 62] then _ else if bl n = [44] then _ else if inL (bl n) (bl ⟨#[61, 32, 92, 61, 32, 61, 61, 32, 92, 61, 61, 32, 64, 60, 32, 64, 62, 32, 64, 61, 60, 32, 64, 62, 61, 32, 105, 115, 32, 61, 58, 61, 32, 61, 92, 61, 32, 60, 32, 62, 32, 61, 60, 32, 62, 61]⟩) [] = true then _ else if inL (bl n) (bl ⟨#[43, 32, 45]⟩) [] = true then _ else if inL (bl n) (bl ⟨#[42, 32, 47, 47, 32, 114, 101, 109, 32, 109, 111, 100]⟩) [] = true then _ else _)
  repeat' split
  all_goals rfl
theorem Prefix_f (n : ByteArray) : resolventref07_Prefix.f n = some (refP (bl n)) := by
  unfold resolventref07_Prefix.f refP
  rw [tl]
  repeat' split
  all_goals rfl
end Go.Proofs.YtecjdjdfikcliaaGreatDoor.Pr
end
