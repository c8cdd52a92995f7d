-- Written by a program (p2.py over the kit's print). Not trusted: Lean checks it.
import Derived.Test.YthnjdfblappkfaaDoorP0
import Derived.Test.YthnjdfblappkfaaDoorLaid
import Derived.Test.YthnjdfblappkfaaDoorPEq49
import Derived.Test.YthnjdfblappkfaaDoorPresolventlaw06wakes
import Derived.Test.YthnjdfblappkfaaDoorLexW
namespace Go.Proofs.YthnjdfblappkfaaDoor.P
open Go.RowKit Go.Proofs.YthnjdfblappkfaaDoorW.PrintWords Go.Proofs.YthnjdfblappkfaaDoorW.PrintLast Go.Proofs.YthnjdfblappkfaaDoorW.PrintMore
attribute [local go_sem] max2_int min2_int max_two min_two max_three min_three max_four min_four   -- for this text's walks alone
set_option linter.unusedVariables false
set_option linter.unusedSimpArgs false

attribute [local go_sem high] eqA49
/-! ### resolventlaw06_LexBlanks: function 9 -/
mutual
def resolventlaw06_LexBlanks.j0 : Nat → ByteArray → ByteArray → Bool → Option (Bool)
  | 0, _, _, _ => none
  | k + 1, x0, x1, x29 => if x29 = true then ((resolventlaw06_wakes.f).bind fun t227 => (some t227)) else ((lex_Lex.f x0).bind fun bt228 => ((lex_Lex.f x1).bind fun bt233 => (if 14 + x1.size ≤ 9223372036854775807 then ((lex_Lex.f ((⟨#[32, 47, 42, 32, 120, 32, 42, 47, 32, 37, 32, 121, 10, 9]⟩ : ByteArray) ++ x1)).bind fun bt238 => (if bt238.2.2 = bt233.2.2 then (if (bt238.1.length : Int) = (bt233.1.length : Int) then (if bt233.2.2 = 0 then (resolventlaw06_LexBlanks.j1 k x0 x1 bt228.1 bt228.2.2 bt233.1 bt233.2.1 bt233.2.2 (⟨#[32, 47, 42, 32, 120, 32, 42, 47, 32, 37, 32, 121, 10, 9]⟩ : ByteArray) bt238.1 false) else (resolventlaw06_LexBlanks.j1 k x0 x1 bt228.1 bt228.2.2 bt233.1 bt233.2.1 bt233.2.2 (⟨#[32, 47, 42, 32, 120, 32, 42, 47, 32, 37, 32, 121, 10, 9]⟩ : ByteArray) bt238.1 (bt238.2.1 != (wrap64 (bt233.2.1 + 14))))) else (resolventlaw06_LexBlanks.j1 k x0 x1 bt228.1 bt228.2.2 bt233.1 bt233.2.1 bt233.2.2 (⟨#[32, 47, 42, 32, 120, 32, 42, 47, 32, 37, 32, 121, 10, 9]⟩ : ByteArray) bt238.1 true)) else (resolventlaw06_LexBlanks.j1 k x0 x1 bt228.1 bt228.2.2 bt233.1 bt233.2.1 bt233.2.2 (⟨#[32, 47, 42, 32, 120, 32, 42, 47, 32, 37, 32, 121, 10, 9]⟩ : ByteArray) bt238.1 true))) else (none))))
def resolventlaw06_LexBlanks.j1 : Nat → ByteArray → ByteArray → List (S49) → Int → List (S49) → Int → Int → ByteArray → List (S49) → Bool → Option (Bool)
  | 0, _, _, _, _, _, _, _, _, _, _ => none
  | k + 1, x0, x1, x5, x7, x8, x9, x10, x11, x12, x72 => if x72 = true then (some false) else (resolventlaw06_LexBlanks.l0 k x0 x1 x5 x7 x8 x9 x10 x11 x12 0)
def resolventlaw06_LexBlanks.l0 : Nat → ByteArray → ByteArray → List (S49) → Int → List (S49) → Int → Int → ByteArray → List (S49) → Int → Option (Bool)
  | 0, _, _, _, _, _, _, _, _, _, _ => none
  | k + 1, x0, x1, x5, x7, x8, x9, x10, x11, x12, x15 => if x15 < (x8.length : Int) then (if 0 ≤ x15 then (if x15 < (x12.length : Int) then (if (!(((rd_T49 x12 x15).f0) == ((rd_T49 x8 x15).f0)) || (!((((rd_T49 x12 x15).f1).toList) == (((rd_T49 x8 x15).f1).toList)) || (!(((rd_T49 x12 x15).f2) == ((rd_T49 x8 x15).f2)) || (!(((rd_T49 x12 x15).f3) == (wrap64 (((rd_T49 x8 x15).f3) + (x11.size : Int)))) || (!(((rd_T49 x12 x15).f4) == ((rd_T49 x8 x15).f4))))))) = true then (some false) else (resolventlaw06_LexBlanks.l0 k x0 x1 x5 x7 x8 x9 x10 x11 x12 (wrap64 (x15 + 1)))) else (none)) else (none)) else (if x7 = 0 then (if x0.size + 1 ≤ 9223372036854775807 then (if (x0 ++ (⟨#[10]⟩ : ByteArray)).size + x1.size ≤ 9223372036854775807 then ((lex_Lex.f ((x0 ++ (⟨#[10]⟩ : ByteArray)) ++ x1)).bind fun bt247 => (if bt247.2.2 = x10 then (if x10 = 0 then (resolventlaw06_LexBlanks.j3 k x0 x5 x8 x10 bt247.1 false) else (resolventlaw06_LexBlanks.j3 k x0 x5 x8 x10 bt247.1 (bt247.2.1 != (wrap64 ((wrap64 ((x0.size : Int) + 1)) + x9))))) else (resolventlaw06_LexBlanks.j3 k x0 x5 x8 x10 bt247.1 true))) else (none)) else (none)) else ((resolventlaw06_wakes.f).bind fun t246 => (some t246)))
def resolventlaw06_LexBlanks.j3 : Nat → ByteArray → List (S49) → List (S49) → Int → List (S49) → Bool → Option (Bool)
  | 0, _, _, _, _, _, _ => none
  | k + 1, x0, x5, x8, x10, x17, x122 => if x122 = true then (some false) else (if x10 = 0 then (if (x5.length : Int) = 0 then (resolventlaw06_LexBlanks.j4 k x0 x5 x8 x17 true) else (resolventlaw06_LexBlanks.j4 k x0 x5 x8 x17 ((x17.length : Int) != (wrap64 ((wrap64 ((x5.length : Int) + (x8.length : Int))) - 1))))) else ((resolventlaw06_wakes.f).bind fun t252 => (some t252)))
def resolventlaw06_LexBlanks.j4 : Nat → ByteArray → List (S49) → List (S49) → List (S49) → Bool → Option (Bool)
  | 0, _, _, _, _, _ => none
  | k + 1, x0, x5, x8, x17, x139 => if x139 = true then (some false) else (resolventlaw06_LexBlanks.l1 k x0 x5 x8 x17 0)
def resolventlaw06_LexBlanks.l1 : Nat → ByteArray → List (S49) → List (S49) → List (S49) → Int → Option (Bool)
  | 0, _, _, _, _, _ => none
  | k + 1, x0, x5, x8, x17, x20 => if x20 < (x17.length : Int) then (if x20 < (wrap64 ((x5.length : Int) - 1)) then (if 0 ≤ x20 then (if x20 < (x5.length : Int) then (if (!(((rd_T49 x17 x20).f0) == ((rd_T49 x5 x20).f0)) || (!((((rd_T49 x17 x20).f1).toList) == (((rd_T49 x5 x20).f1).toList)) || (!(((rd_T49 x17 x20).f2) == ((rd_T49 x5 x20).f2)) || (!(((rd_T49 x17 x20).f3) == ((rd_T49 x5 x20).f3)) || (!(((rd_T49 x17 x20).f4) == ((rd_T49 x5 x20).f4))))))) = true then (some false) else (resolventlaw06_LexBlanks.l1 k x0 x5 x8 x17 (wrap64 (x20 + 1)))) else (none)) else (none)) else (if 0 ≤ (wrap64 ((wrap64 (x20 - (x5.length : Int))) + 1)) then (if (wrap64 ((wrap64 (x20 - (x5.length : Int))) + 1)) < (x8.length : Int) then (if 0 ≤ x20 then (if (!(((rd_T49 x17 x20).f0) == ((rd_T49 x8 (wrap64 ((wrap64 (x20 - (x5.length : Int))) + 1))).f0)) || (!((((rd_T49 x17 x20).f1).toList) == (((rd_T49 x8 (wrap64 ((wrap64 (x20 - (x5.length : Int))) + 1))).f1).toList)) || (!(((rd_T49 x17 x20).f2) == ((rd_T49 x8 (wrap64 ((wrap64 (x20 - (x5.length : Int))) + 1))).f2)) || (!(((rd_T49 x17 x20).f3) == (wrap64 ((wrap64 (((rd_T49 x8 (wrap64 ((wrap64 (x20 - (x5.length : Int))) + 1))).f3) + (x0.size : Int))) + 1))) || (!(((rd_T49 x17 x20).f4) == ((rd_T49 x8 (wrap64 ((wrap64 (x20 - (x5.length : Int))) + 1))).f4))))))) = true then (some false) else (resolventlaw06_LexBlanks.l1 k x0 x5 x8 x17 (wrap64 (x20 + 1)))) else (none)) else (none)) else (none))) else ((resolventlaw06_wakes.f).bind fun t253 => (some t253))
end
def resolventlaw06_LexBlanks.f (k : Nat) (a0 : ByteArray) (a1 : ByteArray) : Option (Bool) := if (a0.size : Int) > 1000 then (resolventlaw06_LexBlanks.j0 k a0 a1 true) else (resolventlaw06_LexBlanks.j0 k a0 a1 (decide ((a1.size : Int) > 1000)))
theorem resolventlaw06_LexBlanks.mono_l : ∀ k, (∀ y0 y1 y2, LeO (resolventlaw06_LexBlanks.j0 k y0 y1 y2) (resolventlaw06_LexBlanks.j0 (k + 1) y0 y1 y2)) ∧ (∀ y0 y1 y2 y3 y4 y5 y6 y7 y8 y9, LeO (resolventlaw06_LexBlanks.j1 k y0 y1 y2 y3 y4 y5 y6 y7 y8 y9) (resolventlaw06_LexBlanks.j1 (k + 1) y0 y1 y2 y3 y4 y5 y6 y7 y8 y9)) ∧ (∀ y0 y1 y2 y3 y4 y5 y6 y7 y8 y9, LeO (resolventlaw06_LexBlanks.l0 k y0 y1 y2 y3 y4 y5 y6 y7 y8 y9) (resolventlaw06_LexBlanks.l0 (k + 1) y0 y1 y2 y3 y4 y5 y6 y7 y8 y9)) ∧ (∀ y0 y1 y2 y3 y4 y5, LeO (resolventlaw06_LexBlanks.j3 k y0 y1 y2 y3 y4 y5) (resolventlaw06_LexBlanks.j3 (k + 1) y0 y1 y2 y3 y4 y5)) ∧ (∀ y0 y1 y2 y3 y4, LeO (resolventlaw06_LexBlanks.j4 k y0 y1 y2 y3 y4) (resolventlaw06_LexBlanks.j4 (k + 1) y0 y1 y2 y3 y4)) ∧ (∀ y0 y1 y2 y3 y4, LeO (resolventlaw06_LexBlanks.l1 k y0 y1 y2 y3 y4) (resolventlaw06_LexBlanks.l1 (k + 1) y0 y1 y2 y3 y4))
  | 0 => ⟨fun _ _ _ r h => by simp [resolventlaw06_LexBlanks.j0] at h, fun _ _ _ _ _ _ _ _ _ _ r h => by simp [resolventlaw06_LexBlanks.j1] at h, fun _ _ _ _ _ _ _ _ _ _ r h => by simp [resolventlaw06_LexBlanks.l0] at h, fun _ _ _ _ _ _ r h => by simp [resolventlaw06_LexBlanks.j3] at h, fun _ _ _ _ _ r h => by simp [resolventlaw06_LexBlanks.j4] at h, fun _ _ _ _ _ r h => by simp [resolventlaw06_LexBlanks.l1] at h⟩
  | k + 1 => by
    obtain ⟨ih0, ih1, ih2, ih3, ih4, ih5⟩ := resolventlaw06_LexBlanks.mono_l k
    refine ⟨?_, ?_, ?_, ?_, ?_, ?_⟩
    · intro y0 y1 y2
      unfold resolventlaw06_LexBlanks.j0
      repeat' first
      | (with_reducible exact ih0 _ _ _)
      | (with_reducible exact ih1 _ _ _ _ _ _ _ _ _ _)
      | (with_reducible exact ih2 _ _ _ _ _ _ _ _ _ _)
      | (with_reducible exact ih3 _ _ _ _ _ _)
      | (with_reducible exact ih4 _ _ _ _ _)
      | (with_reducible exact ih5 _ _ _ _ _)
      | (with_reducible exact LeO.refl _)
      | (with_reducible exact LeO.none _)
      | (with_reducible refine LeO.ite ?_ ?_)
      | (with_reducible refine LeO.bind ?_ (fun _ => ?_))
      | exact ih0 _ _ _
      | exact ih1 _ _ _ _ _ _ _ _ _ _
      | exact ih2 _ _ _ _ _ _ _ _ _ _
      | exact ih3 _ _ _ _ _ _
      | exact ih4 _ _ _ _ _
      | exact ih5 _ _ _ _ _
      | exact LeO.none _
      | refine LeO.ite ?_ ?_
      | refine LeO.bind ?_ (fun _ => ?_)
    · intro y0 y1 y2 y3 y4 y5 y6 y7 y8 y9
      unfold resolventlaw06_LexBlanks.j1
      repeat' first
      | (with_reducible exact ih0 _ _ _)
      | (with_reducible exact ih1 _ _ _ _ _ _ _ _ _ _)
      | (with_reducible exact ih2 _ _ _ _ _ _ _ _ _ _)
      | (with_reducible exact ih3 _ _ _ _ _ _)
      | (with_reducible exact ih4 _ _ _ _ _)
      | (with_reducible exact ih5 _ _ _ _ _)
      | (with_reducible exact LeO.refl _)
      | (with_reducible exact LeO.none _)
      | (with_reducible refine LeO.ite ?_ ?_)
      | (with_reducible refine LeO.bind ?_ (fun _ => ?_))
      | exact ih0 _ _ _
      | exact ih1 _ _ _ _ _ _ _ _ _ _
      | exact ih2 _ _ _ _ _ _ _ _ _ _
      | exact ih3 _ _ _ _ _ _
      | exact ih4 _ _ _ _ _
      | exact ih5 _ _ _ _ _
      | exact LeO.none _
      | refine LeO.ite ?_ ?_
      | refine LeO.bind ?_ (fun _ => ?_)
    · intro y0 y1 y2 y3 y4 y5 y6 y7 y8 y9
      unfold resolventlaw06_LexBlanks.l0
      repeat' first
      | (with_reducible exact ih0 _ _ _)
      | (with_reducible exact ih1 _ _ _ _ _ _ _ _ _ _)
      | (with_reducible exact ih2 _ _ _ _ _ _ _ _ _ _)
      | (with_reducible exact ih3 _ _ _ _ _ _)
      | (with_reducible exact ih4 _ _ _ _ _)
      | (with_reducible exact ih5 _ _ _ _ _)
      | (with_reducible exact LeO.refl _)
      | (with_reducible exact LeO.none _)
      | (with_reducible refine LeO.ite ?_ ?_)
      | (with_reducible refine LeO.bind ?_ (fun _ => ?_))
      | exact ih0 _ _ _
      | exact ih1 _ _ _ _ _ _ _ _ _ _
      | exact ih2 _ _ _ _ _ _ _ _ _ _
      | exact ih3 _ _ _ _ _ _
      | exact ih4 _ _ _ _ _
      | exact ih5 _ _ _ _ _
      | exact LeO.none _
      | refine LeO.ite ?_ ?_
      | refine LeO.bind ?_ (fun _ => ?_)
    · intro y0 y1 y2 y3 y4 y5
      unfold resolventlaw06_LexBlanks.j3
      repeat' first
      | (with_reducible exact ih0 _ _ _)
      | (with_reducible exact ih1 _ _ _ _ _ _ _ _ _ _)
      | (with_reducible exact ih2 _ _ _ _ _ _ _ _ _ _)
      | (with_reducible exact ih3 _ _ _ _ _ _)
      | (with_reducible exact ih4 _ _ _ _ _)
      | (with_reducible exact ih5 _ _ _ _ _)
      | (with_reducible exact LeO.refl _)
      | (with_reducible exact LeO.none _)
      | (with_reducible refine LeO.ite ?_ ?_)
      | (with_reducible refine LeO.bind ?_ (fun _ => ?_))
      | exact ih0 _ _ _
      | exact ih1 _ _ _ _ _ _ _ _ _ _
      | exact ih2 _ _ _ _ _ _ _ _ _ _
      | exact ih3 _ _ _ _ _ _
      | exact ih4 _ _ _ _ _
      | exact ih5 _ _ _ _ _
      | exact LeO.none _
      | refine LeO.ite ?_ ?_
      | refine LeO.bind ?_ (fun _ => ?_)
    · intro y0 y1 y2 y3 y4
      unfold resolventlaw06_LexBlanks.j4
      repeat' first
      | (with_reducible exact ih0 _ _ _)
      | (with_reducible exact ih1 _ _ _ _ _ _ _ _ _ _)
      | (with_reducible exact ih2 _ _ _ _ _ _ _ _ _ _)
      | (with_reducible exact ih3 _ _ _ _ _ _)
      | (with_reducible exact ih4 _ _ _ _ _)
      | (with_reducible exact ih5 _ _ _ _ _)
      | (with_reducible exact LeO.refl _)
      | (with_reducible exact LeO.none _)
      | (with_reducible refine LeO.ite ?_ ?_)
      | (with_reducible refine LeO.bind ?_ (fun _ => ?_))
      | exact ih0 _ _ _
      | exact ih1 _ _ _ _ _ _ _ _ _ _
      | exact ih2 _ _ _ _ _ _ _ _ _ _
      | exact ih3 _ _ _ _ _ _
      | exact ih4 _ _ _ _ _
      | exact ih5 _ _ _ _ _
      | exact LeO.none _
      | refine LeO.ite ?_ ?_
      | refine LeO.bind ?_ (fun _ => ?_)
    · intro y0 y1 y2 y3 y4
      unfold resolventlaw06_LexBlanks.l1
      repeat' first
      | (with_reducible exact ih0 _ _ _)
      | (with_reducible exact ih1 _ _ _ _ _ _ _ _ _ _)
      | (with_reducible exact ih2 _ _ _ _ _ _ _ _ _ _)
      | (with_reducible exact ih3 _ _ _ _ _ _)
      | (with_reducible exact ih4 _ _ _ _ _)
      | (with_reducible exact ih5 _ _ _ _ _)
      | (with_reducible exact LeO.refl _)
      | (with_reducible exact LeO.none _)
      | (with_reducible refine LeO.ite ?_ ?_)
      | (with_reducible refine LeO.bind ?_ (fun _ => ?_))
      | exact ih0 _ _ _
      | exact ih1 _ _ _ _ _ _ _ _ _ _
      | exact ih2 _ _ _ _ _ _ _ _ _ _
      | exact ih3 _ _ _ _ _ _
      | exact ih4 _ _ _ _ _
      | exact ih5 _ _ _ _ _
      | exact LeO.none _
      | refine LeO.ite ?_ ?_
      | refine LeO.bind ?_ (fun _ => ?_)
theorem resolventlaw06_LexBlanks.mono : ∀ a0 a1 k, LeO (resolventlaw06_LexBlanks.f k a0 a1) (resolventlaw06_LexBlanks.f (k + 1) a0 a1) := by
  intro a0 a1 k
  obtain ⟨ih0, ih1, ih2, ih3, ih4, ih5⟩ := resolventlaw06_LexBlanks.mono_l k
  unfold resolventlaw06_LexBlanks.f
  repeat' first
      | (with_reducible exact ih0 _ _ _)
      | (with_reducible exact ih1 _ _ _ _ _ _ _ _ _ _)
      | (with_reducible exact ih2 _ _ _ _ _ _ _ _ _ _)
      | (with_reducible exact ih3 _ _ _ _ _ _)
      | (with_reducible exact ih4 _ _ _ _ _)
      | (with_reducible exact ih5 _ _ _ _ _)
      | (with_reducible exact LeO.refl _)
      | (with_reducible exact LeO.none _)
      | (with_reducible refine LeO.ite ?_ ?_)
      | (with_reducible refine LeO.bind ?_ (fun _ => ?_))
      | exact ih0 _ _ _
      | exact ih1 _ _ _ _ _ _ _ _ _ _
      | exact ih2 _ _ _ _ _ _ _ _ _ _
      | exact ih3 _ _ _ _ _ _
      | exact ih4 _ _ _ _ _
      | exact ih5 _ _ _ _ _
      | exact LeO.none _
      | refine LeO.ite ?_ ?_
      | refine LeO.bind ?_ (fun _ => ?_)
def resolventlaw06_LexBlanks.Pure : Prop := ∀ (a0 : ByteArray) (a1 : ByteArray), a0.size ≤ 140737488351232 → a1.size ≤ 140737488351232 → ∃ k, resolventlaw06_LexBlanks.f k a0 a1 = some true

end Go.Proofs.YthnjdfblappkfaaDoor.P
