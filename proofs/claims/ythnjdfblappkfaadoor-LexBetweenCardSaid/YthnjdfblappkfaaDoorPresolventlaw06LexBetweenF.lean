-- Written by a program (p2.py over the kit's print). Not trusted: Lean checks it.
import Derived.Test.YthnjdfblappkfaaDoorP0
import Derived.Test.YthnjdfblappkfaaDoorLaid
import Derived.Test.YthnjdfblappkfaaDoorPresolventlaw06wakes
import Derived.Test.YthnjdfblappkfaaDoorPresolventref06Digit
import Derived.Test.YthnjdfblappkfaaDoorPresolventlaw06back
import Derived.Test.YthnjdfblappkfaaDoorLexW
namespace Go.Proofs.YthnjdfblappkfaaDoor.P
open Go.RowKit Go.Proofs.YthnjdfblappkfaaDoorW.PrintWords Go.Proofs.YthnjdfblappkfaaDoorW.PrintLast Go.Proofs.YthnjdfblappkfaaDoorW.PrintMore
attribute [local go_sem] max2_int min2_int max_two min_two max_three min_three max_four min_four   -- for this text's walks alone
set_option linter.unusedVariables false
set_option linter.unusedSimpArgs false

/-! ### resolventlaw06_LexBetween: function 8 -/
mutual
def resolventlaw06_LexBetween.j0 : Nat → ByteArray → List (S49) → Bool → Option (Bool)
  | 0, _, _, _ => none
  | k + 1, x0, x3, x58 => if x58 = true then (some false) else (resolventlaw06_LexBetween.l0 k x0 x3 0 0)
def resolventlaw06_LexBetween.l0 : Nat → ByteArray → List (S49) → Int → Int → Option (Bool)
  | 0, _, _, _, _ => none
  | k + 1, x0, x3, x6, x7 => if x7 < (x3.length : Int) then (if 0 ≤ x7 then (if ((rd_T49 x3 x7).f3) < x6 then (resolventlaw06_LexBetween.j2 k x0 x3 x6 x7 true ((rd_T49 x3 x7).f0) ((rd_T49 x3 x7).f1) ((rd_T49 x3 x7).f2) ((rd_T49 x3 x7).f3) ((rd_T49 x3 x7).f4)) else (if ((rd_T49 x3 x7).f3) > (x0.size : Int) then (resolventlaw06_LexBetween.j2 k x0 x3 x6 x7 true ((rd_T49 x3 x7).f0) ((rd_T49 x3 x7).f1) ((rd_T49 x3 x7).f2) ((rd_T49 x3 x7).f3) ((rd_T49 x3 x7).f4)) else (resolventlaw06_LexBetween.j2 k x0 x3 x6 x7 ((((rd_T49 x3 x7).f0) == 7) != (x7 == (wrap64 ((x3.length : Int) - 1)))) ((rd_T49 x3 x7).f0) ((rd_T49 x3 x7).f1) ((rd_T49 x3 x7).f2) ((rd_T49 x3 x7).f3) ((rd_T49 x3 x7).f4)))) else (none)) else ((resolventlaw06_wakes.f).bind fun t214 => (some t214))
def resolventlaw06_LexBetween.j2 : Nat → ByteArray → List (S49) → Int → Int → Bool → Int → ByteArray → Int → Int → Bool → Option (Bool)
  | 0, _, _, _, _, _, _, _, _, _, _ => none
  | k + 1, x0, x3, x6, x7, x90, x217000, x217001, x217002, x217003, x217004 => if x90 = true then (some false) else (if 0 ≤ x6 then (if x6 ≤ x217003 then (if x217003 ≤ (x0.size : Int) then ((lex_Lex.f (x0.extract (x6 : Int).toNat (x217003 : Int).toNat)).bind fun bt217 => (if bt217.2.2 = 0 then (resolventlaw06_LexBetween.j3 k x0 x3 x7 ((bt217.1.length : Int) != 1) x217000 x217001 x217002 x217003 x217004) else (resolventlaw06_LexBetween.j3 k x0 x3 x7 true x217000 x217001 x217002 x217003 x217004))) else (none)) else (none)) else (none))
def resolventlaw06_LexBetween.j3 : Nat → ByteArray → List (S49) → Int → Bool → Int → ByteArray → Int → Int → Bool → Option (Bool)
  | 0, _, _, _, _, _, _, _, _, _ => none
  | k + 1, x0, x3, x7, x107, x217000, x217001, x217002, x217003, x217004 => if x107 = true then (some false) else (if x217000 = 1 then (resolventlaw06_LexBetween.j4 k x0 x3 x217003 x7 x217000 (x217000 == 1) x217000 x217001 x217002 x217003 x217004) else (if x217000 = 3 then (resolventlaw06_LexBetween.j4 k x0 x3 x217003 x7 x217000 (x217000 == 3) x217000 x217001 x217002 x217003 x217004) else (resolventlaw06_LexBetween.j4 k x0 x3 x217003 x7 x217000 (x217000 == 5) x217000 x217001 x217002 x217003 x217004)))
def resolventlaw06_LexBetween.j4 : Nat → ByteArray → List (S49) → Int → Int → Int → Bool → Int → ByteArray → Int → Int → Bool → Option (Bool)
  | 0, _, _, _, _, _, _, _, _, _, _, _ => none
  | k + 1, x0, x3, x6, x7, x111, x112, x217000, x217001, x217002, x217003, x217004 => if x112 = true then (if (wrap64 (x217003 + (x217001.size : Int))) > (x0.size : Int) then (some false) else (if 0 ≤ x217003 then (if x217003 ≤ (wrap64 (x217003 + (x217001.size : Int))) then (if (wrap64 (x217003 + (x217001.size : Int))) ≤ (x0.size : Int) then (if (x0.extract (x217003 : Int).toNat ((wrap64 (x217003 + (x217001.size : Int))) : Int).toNat).toList = x217001.toList then (if x217001.toList = ([] : List UInt8) then (some false) else (resolventlaw06_LexBetween.l0 k x0 x3 (wrap64 (x217003 + (x217001.size : Int))) (wrap64 (x7 + 1)))) else (some false)) else (none)) else (none)) else (none))) else (if x111 = 6 then (if 0 ≤ x217003 then (if x217003 < (x0.size : Int) then (if (bt x0 x217003) = 46 then (resolventlaw06_LexBetween.l0 k x0 x3 (wrap64 (x217003 + 1)) (wrap64 (x7 + 1))) else (some false)) else (none)) else (none)) else (if x111 = 4 then (resolventlaw06_LexBetween.l1 k x0 x3 x6 x7) else (if x111 = 2 then (if (wrap64 (x7 + 1)) < (x3.length : Int) then (if 0 ≤ (wrap64 (x7 + 1)) then (if ((rd_T49 x3 (wrap64 (x7 + 1))).f3) > x217003 then (if ((rd_T49 x3 (wrap64 (x7 + 1))).f3) ≤ (x0.size : Int) then ((resolventlaw06_back.f k x0 ((rd_T49 x3 (wrap64 (x7 + 1))).f3) x217003).bind fun t226 => (resolventlaw06_LexBetween.l0 k x0 x3 t226 (wrap64 (x7 + 1)))) else (resolventlaw06_LexBetween.l0 k x0 x3 x6 (wrap64 (x7 + 1)))) else (resolventlaw06_LexBetween.l0 k x0 x3 x6 (wrap64 (x7 + 1)))) else (none)) else (resolventlaw06_LexBetween.l0 k x0 x3 x6 (wrap64 (x7 + 1)))) else (resolventlaw06_LexBetween.l0 k x0 x3 x6 (wrap64 (x7 + 1))))))
def resolventlaw06_LexBetween.l1 : Nat → ByteArray → List (S49) → Int → Int → Option (Bool)
  | 0, _, _, _, _ => none
  | k + 1, x0, x3, x6, x7 => if x6 < (x0.size : Int) then (if 0 ≤ x6 then ((resolventref06_Digit.f (bt x0 x6)).bind fun t222 => (if t222 = true then (resolventlaw06_LexBetween.l1 k x0 x3 (wrap64 (x6 + 1)) x7) else (resolventlaw06_LexBetween.l0 k x0 x3 x6 (wrap64 (x7 + 1))))) else (none)) else (resolventlaw06_LexBetween.l0 k x0 x3 x6 (wrap64 (x7 + 1)))
end
def resolventlaw06_LexBetween.f (k : Nat) (a0 : ByteArray) : Option (Bool) := if (a0.size : Int) > 2000 then ((resolventlaw06_wakes.f).bind fun t206 => (some t206)) else ((lex_Lex.f a0).bind fun bt207 => (if bt207.2.2 = 0 then (if (bt207.1.length : Int) = 0 then (resolventlaw06_LexBetween.j0 k a0 bt207.1 true) else (if 0 ≤ (wrap64 ((bt207.1.length : Int) - 1)) then (if (wrap64 ((bt207.1.length : Int) - 1)) < (bt207.1.length : Int) then (if ((rd_T49 bt207.1 (wrap64 ((bt207.1.length : Int) - 1))).f3) = (a0.size : Int) then (resolventlaw06_LexBetween.j0 k a0 bt207.1 (bt207.2.1 != 0)) else (resolventlaw06_LexBetween.j0 k a0 bt207.1 true)) else (none)) else (none))) else (if (bt207.1.length : Int) = 0 then (if bt207.2.1 ≥ 0 then (if bt207.2.1 < (a0.size : Int) then ((resolventlaw06_wakes.f).bind fun t212 => (some t212)) else (some false)) else (some false)) else (some false))))
theorem resolventlaw06_LexBetween.mono_l : ∀ k, (∀ y0 y1 y2, LeO (resolventlaw06_LexBetween.j0 k y0 y1 y2) (resolventlaw06_LexBetween.j0 (k + 1) y0 y1 y2)) ∧ (∀ y0 y1 y2 y3, LeO (resolventlaw06_LexBetween.l0 k y0 y1 y2 y3) (resolventlaw06_LexBetween.l0 (k + 1) y0 y1 y2 y3)) ∧ (∀ y0 y1 y2 y3 y4 y5 y6 y7 y8 y9, LeO (resolventlaw06_LexBetween.j2 k y0 y1 y2 y3 y4 y5 y6 y7 y8 y9) (resolventlaw06_LexBetween.j2 (k + 1) y0 y1 y2 y3 y4 y5 y6 y7 y8 y9)) ∧ (∀ y0 y1 y2 y3 y4 y5 y6 y7 y8, LeO (resolventlaw06_LexBetween.j3 k y0 y1 y2 y3 y4 y5 y6 y7 y8) (resolventlaw06_LexBetween.j3 (k + 1) y0 y1 y2 y3 y4 y5 y6 y7 y8)) ∧ (∀ y0 y1 y2 y3 y4 y5 y6 y7 y8 y9 y10, LeO (resolventlaw06_LexBetween.j4 k y0 y1 y2 y3 y4 y5 y6 y7 y8 y9 y10) (resolventlaw06_LexBetween.j4 (k + 1) y0 y1 y2 y3 y4 y5 y6 y7 y8 y9 y10)) ∧ (∀ y0 y1 y2 y3, LeO (resolventlaw06_LexBetween.l1 k y0 y1 y2 y3) (resolventlaw06_LexBetween.l1 (k + 1) y0 y1 y2 y3))
  | 0 => ⟨fun _ _ _ r h => by simp [resolventlaw06_LexBetween.j0] at h, fun _ _ _ _ r h => by simp [resolventlaw06_LexBetween.l0] at h, fun _ _ _ _ _ _ _ _ _ _ r h => by simp [resolventlaw06_LexBetween.j2] at h, fun _ _ _ _ _ _ _ _ _ r h => by simp [resolventlaw06_LexBetween.j3] at h, fun _ _ _ _ _ _ _ _ _ _ _ r h => by simp [resolventlaw06_LexBetween.j4] at h, fun _ _ _ _ r h => by simp [resolventlaw06_LexBetween.l1] at h⟩
  | k + 1 => by
    obtain ⟨ih0, ih1, ih2, ih3, ih4, ih5⟩ := resolventlaw06_LexBetween.mono_l k
    refine ⟨?_, ?_, ?_, ?_, ?_, ?_⟩
    · intro y0 y1 y2
      unfold resolventlaw06_LexBetween.j0
      repeat' first
      | (with_reducible exact ih0 _ _ _)
      | (with_reducible exact ih1 _ _ _ _)
      | (with_reducible exact ih2 _ _ _ _ _ _ _ _ _ _)
      | (with_reducible exact ih3 _ _ _ _ _ _ _ _ _)
      | (with_reducible exact ih4 _ _ _ _ _ _ _ _ _ _ _)
      | (with_reducible exact ih5 _ _ _ _)
      | (with_reducible exact resolventlaw06_back.mono _ _ _ _)
      | (with_reducible exact LeO.refl _)
      | (with_reducible exact LeO.none _)
      | (with_reducible refine LeO.ite ?_ ?_)
      | (with_reducible refine LeO.bind ?_ (fun _ => ?_))
      | exact ih0 _ _ _
      | exact ih1 _ _ _ _
      | exact ih2 _ _ _ _ _ _ _ _ _ _
      | exact ih3 _ _ _ _ _ _ _ _ _
      | exact ih4 _ _ _ _ _ _ _ _ _ _ _
      | exact ih5 _ _ _ _
      | exact resolventlaw06_back.mono _ _ _ _
      | exact LeO.none _
      | refine LeO.ite ?_ ?_
      | refine LeO.bind ?_ (fun _ => ?_)
    · intro y0 y1 y2 y3
      unfold resolventlaw06_LexBetween.l0
      repeat' first
      | (with_reducible exact ih0 _ _ _)
      | (with_reducible exact ih1 _ _ _ _)
      | (with_reducible exact ih2 _ _ _ _ _ _ _ _ _ _)
      | (with_reducible exact ih3 _ _ _ _ _ _ _ _ _)
      | (with_reducible exact ih4 _ _ _ _ _ _ _ _ _ _ _)
      | (with_reducible exact ih5 _ _ _ _)
      | (with_reducible exact resolventlaw06_back.mono _ _ _ _)
      | (with_reducible exact LeO.refl _)
      | (with_reducible exact LeO.none _)
      | (with_reducible refine LeO.ite ?_ ?_)
      | (with_reducible refine LeO.bind ?_ (fun _ => ?_))
      | exact ih0 _ _ _
      | exact ih1 _ _ _ _
      | exact ih2 _ _ _ _ _ _ _ _ _ _
      | exact ih3 _ _ _ _ _ _ _ _ _
      | exact ih4 _ _ _ _ _ _ _ _ _ _ _
      | exact ih5 _ _ _ _
      | exact resolventlaw06_back.mono _ _ _ _
      | exact LeO.none _
      | refine LeO.ite ?_ ?_
      | refine LeO.bind ?_ (fun _ => ?_)
    · intro y0 y1 y2 y3 y4 y5 y6 y7 y8 y9
      unfold resolventlaw06_LexBetween.j2
      repeat' first
      | (with_reducible exact ih0 _ _ _)
      | (with_reducible exact ih1 _ _ _ _)
      | (with_reducible exact ih2 _ _ _ _ _ _ _ _ _ _)
      | (with_reducible exact ih3 _ _ _ _ _ _ _ _ _)
      | (with_reducible exact ih4 _ _ _ _ _ _ _ _ _ _ _)
      | (with_reducible exact ih5 _ _ _ _)
      | (with_reducible exact resolventlaw06_back.mono _ _ _ _)
      | (with_reducible exact LeO.refl _)
      | (with_reducible exact LeO.none _)
      | (with_reducible refine LeO.ite ?_ ?_)
      | (with_reducible refine LeO.bind ?_ (fun _ => ?_))
      | exact ih0 _ _ _
      | exact ih1 _ _ _ _
      | exact ih2 _ _ _ _ _ _ _ _ _ _
      | exact ih3 _ _ _ _ _ _ _ _ _
      | exact ih4 _ _ _ _ _ _ _ _ _ _ _
      | exact ih5 _ _ _ _
      | exact resolventlaw06_back.mono _ _ _ _
      | exact LeO.none _
      | refine LeO.ite ?_ ?_
      | refine LeO.bind ?_ (fun _ => ?_)
    · intro y0 y1 y2 y3 y4 y5 y6 y7 y8
      unfold resolventlaw06_LexBetween.j3
      repeat' first
      | (with_reducible exact ih0 _ _ _)
      | (with_reducible exact ih1 _ _ _ _)
      | (with_reducible exact ih2 _ _ _ _ _ _ _ _ _ _)
      | (with_reducible exact ih3 _ _ _ _ _ _ _ _ _)
      | (with_reducible exact ih4 _ _ _ _ _ _ _ _ _ _ _)
      | (with_reducible exact ih5 _ _ _ _)
      | (with_reducible exact resolventlaw06_back.mono _ _ _ _)
      | (with_reducible exact LeO.refl _)
      | (with_reducible exact LeO.none _)
      | (with_reducible refine LeO.ite ?_ ?_)
      | (with_reducible refine LeO.bind ?_ (fun _ => ?_))
      | exact ih0 _ _ _
      | exact ih1 _ _ _ _
      | exact ih2 _ _ _ _ _ _ _ _ _ _
      | exact ih3 _ _ _ _ _ _ _ _ _
      | exact ih4 _ _ _ _ _ _ _ _ _ _ _
      | exact ih5 _ _ _ _
      | exact resolventlaw06_back.mono _ _ _ _
      | exact LeO.none _
      | refine LeO.ite ?_ ?_
      | refine LeO.bind ?_ (fun _ => ?_)
    · intro y0 y1 y2 y3 y4 y5 y6 y7 y8 y9 y10
      unfold resolventlaw06_LexBetween.j4
      repeat' first
      | (with_reducible exact ih0 _ _ _)
      | (with_reducible exact ih1 _ _ _ _)
      | (with_reducible exact ih2 _ _ _ _ _ _ _ _ _ _)
      | (with_reducible exact ih3 _ _ _ _ _ _ _ _ _)
      | (with_reducible exact ih4 _ _ _ _ _ _ _ _ _ _ _)
      | (with_reducible exact ih5 _ _ _ _)
      | (with_reducible exact resolventlaw06_back.mono _ _ _ _)
      | (with_reducible exact LeO.refl _)
      | (with_reducible exact LeO.none _)
      | (with_reducible refine LeO.ite ?_ ?_)
      | (with_reducible refine LeO.bind ?_ (fun _ => ?_))
      | exact ih0 _ _ _
      | exact ih1 _ _ _ _
      | exact ih2 _ _ _ _ _ _ _ _ _ _
      | exact ih3 _ _ _ _ _ _ _ _ _
      | exact ih4 _ _ _ _ _ _ _ _ _ _ _
      | exact ih5 _ _ _ _
      | exact resolventlaw06_back.mono _ _ _ _
      | exact LeO.none _
      | refine LeO.ite ?_ ?_
      | refine LeO.bind ?_ (fun _ => ?_)
    · intro y0 y1 y2 y3
      unfold resolventlaw06_LexBetween.l1
      repeat' first
      | (with_reducible exact ih0 _ _ _)
      | (with_reducible exact ih1 _ _ _ _)
      | (with_reducible exact ih2 _ _ _ _ _ _ _ _ _ _)
      | (with_reducible exact ih3 _ _ _ _ _ _ _ _ _)
      | (with_reducible exact ih4 _ _ _ _ _ _ _ _ _ _ _)
      | (with_reducible exact ih5 _ _ _ _)
      | (with_reducible exact resolventlaw06_back.mono _ _ _ _)
      | (with_reducible exact LeO.refl _)
      | (with_reducible exact LeO.none _)
      | (with_reducible refine LeO.ite ?_ ?_)
      | (with_reducible refine LeO.bind ?_ (fun _ => ?_))
      | exact ih0 _ _ _
      | exact ih1 _ _ _ _
      | exact ih2 _ _ _ _ _ _ _ _ _ _
      | exact ih3 _ _ _ _ _ _ _ _ _
      | exact ih4 _ _ _ _ _ _ _ _ _ _ _
      | exact ih5 _ _ _ _
      | exact resolventlaw06_back.mono _ _ _ _
      | exact LeO.none _
      | refine LeO.ite ?_ ?_
      | refine LeO.bind ?_ (fun _ => ?_)
theorem resolventlaw06_LexBetween.mono : ∀ a0 k, LeO (resolventlaw06_LexBetween.f k a0) (resolventlaw06_LexBetween.f (k + 1) a0) := by
  intro a0 k
  obtain ⟨ih0, ih1, ih2, ih3, ih4, ih5⟩ := resolventlaw06_LexBetween.mono_l k
  unfold resolventlaw06_LexBetween.f
  repeat' first
      | (with_reducible exact ih0 _ _ _)
      | (with_reducible exact ih1 _ _ _ _)
      | (with_reducible exact ih2 _ _ _ _ _ _ _ _ _ _)
      | (with_reducible exact ih3 _ _ _ _ _ _ _ _ _)
      | (with_reducible exact ih4 _ _ _ _ _ _ _ _ _ _ _)
      | (with_reducible exact ih5 _ _ _ _)
      | (with_reducible exact resolventlaw06_back.mono _ _ _ _)
      | (with_reducible exact LeO.refl _)
      | (with_reducible exact LeO.none _)
      | (with_reducible refine LeO.ite ?_ ?_)
      | (with_reducible refine LeO.bind ?_ (fun _ => ?_))
      | exact ih0 _ _ _
      | exact ih1 _ _ _ _
      | exact ih2 _ _ _ _ _ _ _ _ _ _
      | exact ih3 _ _ _ _ _ _ _ _ _
      | exact ih4 _ _ _ _ _ _ _ _ _ _ _
      | exact ih5 _ _ _ _
      | exact resolventlaw06_back.mono _ _ _ _
      | exact LeO.none _
      | refine LeO.ite ?_ ?_
      | refine LeO.bind ?_ (fun _ => ?_)
def resolventlaw06_LexBetween.Pure : Prop := ∀ (a0 : ByteArray), a0.size ≤ 140737488351232 → ∃ k, resolventlaw06_LexBetween.f k a0 = some true

end Go.Proofs.YthnjdfblappkfaaDoor.P
