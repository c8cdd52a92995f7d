/-
  LexBetween: the steps of the printed function behind a token, by its kind.
-/
import Derived.Test.YthnjdfblappkfaaDoorPresolventlaw06LexBetweenF
namespace Go.Proofs.YthnjdfblappkfaaDoor.Betw
open Go.RowKit Go.Proofs.YthnjdfblappkfaaDoor.P Go.Proofs.YthnjdfblappkfaaDoorW.PrintWords Go.Proofs.YthnjdfblappkfaaDoorW.PrintLast
open Go Go.Proofs.YthnjdfblappkfaaDoor

theorem j4_word (n : Nat) (s : ByteArray) (L : List S49) (x6 i kind pos p2 f0 f2 : Int) (f1 : ByteArray) (f4 : Bool)
    (h1 : wrap64 (pos + (f1.size : Int)) = p2) (h2 : ¬ p2 > (s.size : Int)) (h3 : 0 ≤ pos) (h4 : pos ≤ p2) (h5 : p2 ≤ (s.size : Int))
    (h6 : (s.extract (pos : Int).toNat (p2 : Int).toNat).toList = f1.toList) (h7 : ¬ f1.toList = ([] : List UInt8)) :
    resolventlaw06_LexBetween.j4 (n + 1) s L x6 i kind true f0 f1 f2 pos f4 = resolventlaw06_LexBetween.l0 n s L p2 (wrap64 (i + 1)) := by
  subst h1
  simp only [resolventlaw06_LexBetween.j4]
  rw [if_pos trivial, if_neg h2, if_pos h3, if_pos h4, if_pos h5, if_pos h6, if_neg h7]

theorem j4_end (n : Nat) (s : ByteArray) (L : List S49) (x6 i pos f0 f2 : Int) (f1 : ByteArray) (f4 : Bool)
    (h3 : 0 ≤ pos) (h4 : pos < (s.size : Int)) (h5 : bt s pos = 46) :
    resolventlaw06_LexBetween.j4 (n + 1) s L x6 i 6 false f0 f1 f2 pos f4 = resolventlaw06_LexBetween.l0 n s L (wrap64 (pos + 1)) (wrap64 (i + 1)) := by
  simp only [resolventlaw06_LexBetween.j4]
  rw [if_neg (by decide), if_pos trivial, if_pos h3, if_pos h4, if_pos h5]

theorem j4_int (n : Nat) (s : ByteArray) (L : List S49) (x6 i pos f0 f2 : Int) (f1 : ByteArray) (f4 : Bool) :
    resolventlaw06_LexBetween.j4 (n + 1) s L x6 i 4 false f0 f1 f2 pos f4 = resolventlaw06_LexBetween.l1 n s L x6 i := by
  simp only [resolventlaw06_LexBetween.j4]
  rw [if_neg (by decide), if_neg (by decide), if_pos trivial]

theorem j4_quote (n : Nat) (s : ByteArray) (L : List S49) (x6 i i1 pos r q f0 f2 : Int) (f1 : ByteArray) (f4 : Bool)
    (h1 : wrap64 (i + 1) = i1) (h2 : i1 < (L.length : Int)) (h3 : 0 ≤ i1) (hq : (rd_T49 L i1).f3 = q) (h4 : q > pos) (h5 : q ≤ (s.size : Int)) (h6 : resolventlaw06_back.f n s q pos = some r) :
    resolventlaw06_LexBetween.j4 (n + 1) s L x6 i 2 false f0 f1 f2 pos f4 = resolventlaw06_LexBetween.l0 n s L r i1 := by
  subst h1
  subst hq
  simp only [resolventlaw06_LexBetween.j4]
  rw [if_neg (by decide), if_neg (by decide), if_neg (by decide), if_pos trivial, if_pos h2, if_pos h3, if_pos h4, if_pos h5, h6, Option.bind_some]

end Go.Proofs.YthnjdfblappkfaaDoor.Betw
