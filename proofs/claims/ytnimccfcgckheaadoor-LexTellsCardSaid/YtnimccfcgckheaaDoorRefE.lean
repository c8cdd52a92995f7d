/-
  The document's lexer is the plain lexer; LexTells, the plain half.
-/
import Derived.Test.YtnimccfcgckheaaDoorRefAll
import Derived.Test.YtnimccfcgckheaaDoorPresolventref06Lex
import Derived.Test.YtnimccfcgckheaaDoorPresolventlaw06LexTells
import Derived.Test.YtnimccfcgckheaaDoorWakes
namespace Go.Proofs.YtnimccfcgckheaaDoor
open Go.RowKit Go.Proofs.YtnimccfcgckheaaDoor.P Go.Proofs.YtnimccfcgckheaaDoorW.PrintWords Go.Proofs.YtnimccfcgckheaaDoorW.PrintLast
open Go Go.Proofs.YtnimccfcgckheaaDoor
namespace Ref

def tokR (t : Lx.Tok) : S77 := ⟨t.kind, mk t.text, t.n, t.pos, t.opn⟩

/-- The lexer's answer, as the document's tells it. -/
def lres (q : Except (Nat × Nat) (List Lx.Tok)) : List S77 × Int × Int :=
  match q with
  | .error (p, n) => ([], (p : Int), (n : Int))
  | .ok l => (l.map tokR, 0, 0)

theorem lex_loop (x : ByteArray) (hx : x.size ≤ 8192) (q : Except (Nat × Nat) (List Lx.Tok)) : ∀ d i, i ≤ x.size → x.size - i ≤ d → ∀ acc : List Lx.Tok, acc.length ≤ i → Rest q x i acc →
    Ev (fun k => resolventref06_Lex.l0 k x (acc.map tokR) (i : Int)) (lres q) := by
  intro d
  induction d with
  | zero =>
    intro i hi hd acc ha hR
    have he : i = x.size := by omega
    obtain ⟨p1, ok, h1, h2, hs, hbad, hend, -⟩ := Rest.step hR hi
    have hp1 : p1 = x.size := by omega
    subst he
    subst hp1
    rw [drop_end x _ (Nat.le_refl _)] at hs
    have : ok = true := by
      have e : Lx.skip [] = ([], true) := rfl
      rw [e] at hs
      exact (Prod.mk.inj hs).2.symm
    subst this
    have hq := hend rfl rfl
    obtain ⟨K, hK⟩ := skip_f x hx x.size (Nat.le_refl _)
    refine ⟨K + 1, fun n hn => ?_⟩
    obtain ⟨m, rfl⟩ : ∃ m, n = m + 1 := ⟨n - 1, by omega⟩
    show resolventref06_Lex.l0 (m + 1) x _ _ = _
    simp only [resolventref06_Lex.l0]
    rw [show resolventref06_skip.f m x (x.size : Int) = _ from hK m (by omega), drop_end x _ (Nat.le_refl _)]
    have e : res x.size (Lx.skip []) = (x.size : Int) := by simp [res, Lx.skip, Lx.skipM]
    rw [e, Option.bind_some, if_neg (by omega), if_pos rfl, if_pos (by simp; omega), hq]
    simp [lres, tokR, mk]
  | succ d ih =>
    intro i hi hd acc ha hR
    obtain ⟨p1, ok, h1, h2, hs, hbad, hend, htok⟩ := Rest.step hR hi
    obtain ⟨K, hK⟩ := skip_f x hx i hi
    rw [hs] at hK
    by_cases hok : ok = false
    · subst hok
      have hq := hbad rfl
      refine ⟨K + 1, fun n hn => ?_⟩
      obtain ⟨m, rfl⟩ : ∃ m, n = m + 1 := ⟨n - 1, by omega⟩
      show resolventref06_Lex.l0 (m + 1) x _ _ = _
      simp only [resolventref06_Lex.l0]
      rw [show resolventref06_skip.f m x (i : Int) = _ from hK m (by omega)]
      have e : res x.size ((bl x).drop p1, false) = -(p1 : Int) - 1 := by
        simp only [res, drop_len]
        rw [if_neg (by decide)]
        omega
      rw [e, Option.bind_some, if_pos (by omega), wrap_small (i := -(-(p1 : Int) - 1)) (by omega) (by omega), wrap_small (by omega) (by omega), hq]
      simp only [lres]
      rw [show -(-(p1 : Int) - 1) - 1 = (p1 : Int) by omega]
      rfl
    have hok' : ok = true := by simpa using hok
    subst hok'
    have e : res x.size ((bl x).drop p1, true) = (p1 : Int) := by
      simp only [res, drop_len]
      rw [if_pos trivial]
      omega
    rw [e] at hK
    by_cases hp1 : p1 = x.size
    · have hq := hend rfl hp1
      refine ⟨K + 1, fun n hn => ?_⟩
      obtain ⟨m, rfl⟩ : ∃ m, n = m + 1 := ⟨n - 1, by omega⟩
      show resolventref06_Lex.l0 (m + 1) x _ _ = _
      simp only [resolventref06_Lex.l0]
      rw [show resolventref06_skip.f m x (i : Int) = _ from hK m (by omega), Option.bind_some, if_neg (by omega), if_pos (by omega), if_pos (by simp; omega), hq]
      simp [lres, tokR, mk]
    have hlt : p1 < x.size := by omega
    have ht := htok rfl hlt
    obtain ⟨z, ⟨K2, hK2⟩, hz⟩ := take_f x hx p1 hlt
    have start : ∀ m, K ≤ m → K2 ≤ m → resolventref06_Lex.l0 (m + 1) x (acc.map tokR) (i : Int) = (if z.2.2.2.2.2.2 = 0 then (resolventref06_Lex.j1 m x (acc.map tokR) (p1 : Int) z.2.2.2.2.2.1 z.2.2.2.2.2.2 (decide ((z.2.1.size : Int) > 32)) z.1 z.2.1 z.2.2.1 z.2.2.2.1 z.2.2.2.2.1) else (resolventref06_Lex.j1 m x (acc.map tokR) (p1 : Int) z.2.2.2.2.2.1 z.2.2.2.2.2.2 false z.1 z.2.1 z.2.2.1 z.2.2.2.1 z.2.2.2.2.1)) := by
      intro m hm1 hm2
      simp only [resolventref06_Lex.l0]
      rw [show resolventref06_skip.f m x (i : Int) = _ from hK m hm1, Option.bind_some, if_neg (by omega), if_neg (by omega), show resolventref06_take.f m x (p1 : Int) = _ from hK2 m hm2, Option.bind_some]
    rcases htk : Lx.take ((bl x).drop p1) with er | ⟨k, t, v, rest⟩
    · rw [htk] at ht hz
      obtain ⟨z7, hne⟩ := hz
      have hq : q = .error (p1, er) := ht
      refine ⟨K + K2 + 2, fun n hn => ?_⟩
      obtain ⟨m, rfl⟩ : ∃ m, n = m + 1 + 1 := ⟨n - 2, by omega⟩
      show resolventref06_Lex.l0 (m + 1 + 1) x _ _ = _
      rw [start (m + 1) (by omega) (by omega), z7, if_neg (by omega)]
      simp only [resolventref06_Lex.j1]
      rw [if_neg (by decide), if_neg (by omega), hq]
      rfl
    · rw [htk] at ht hz
      obtain ⟨p2, hp12, hp2, hrest, hlong, hshort⟩ := ht
      have hz' : z = ((k : Int), mk t, v, 0, false, (x.size : Int) - rest.length, 0) := hz
      have e2 : (x.size : Int) - rest.length = (p2 : Int) := by rw [hrest, drop_len]; omega
      rw [e2] at hz'
      subst hz'
      by_cases h32 : 32 < t.length
      · have hq := hlong h32
        refine ⟨K + K2 + 2, fun n hn => ?_⟩
        obtain ⟨m, rfl⟩ : ∃ m, n = m + 1 + 1 := ⟨n - 2, by omega⟩
        show resolventref06_Lex.l0 (m + 1 + 1) x _ _ = _
        rw [start (m + 1) (by omega) (by omega)]
        simp only [resolventref06_Lex.j1]
        rw [if_pos trivial, decide_eq_true (show ((mk t).size : Int) > 32 by rw [mk_size]; omega), if_pos rfl, if_neg (by decide), hq]
        rfl
      · have hR' := hshort h32
        have hi' := ih p2 hp2 (by omega) (acc ++ [⟨k, t, v, p1, rest.head? == some 40⟩]) (by simp; omega) hR'
        obtain ⟨K3, hK3⟩ := hi'
        refine ⟨K + K2 + K3 + 2, fun n hn => ?_⟩
        obtain ⟨m, rfl⟩ : ∃ m, n = m + 1 + 1 := ⟨n - 2, by omega⟩
        show resolventref06_Lex.l0 (m + 1 + 1) x _ _ = _
        rw [start (m + 1) (by omega) (by omega)]
        simp only [resolventref06_Lex.j1]
        rw [if_pos trivial, decide_eq_false (show ¬ ((mk t).size : Int) > 32 by rw [mk_size]; omega), if_neg (by decide), if_pos trivial]
        have h3 := hK3 m (by omega)
        have h3' : resolventref06_Lex.l0 m x (acc.map tokR ++ [tokR ⟨k, t, v, p1, rest.head? == some 40⟩]) (p2 : Int) = some (lres q) := by
          rw [← h3, List.map_append]; rfl
        by_cases hlt2 : p2 < x.size
        · obtain ⟨c, hdrop, hc⟩ := at_drop x p2 hlt2
          rw [if_pos (by omega), if_pos (by omega), if_pos (by simp; omega), ← h3']
          have e3 : (rest.head? == some 40) = (bt x (p2 : Int) == 40) := by
            rw [hrest, hdrop, hc]
            by_cases h40 : c = 40
            · subst h40; rfl
            · rw [show ((c.toNat : Int) == 40) = false by simpa using nb h40 40 rfl]
              simp [h40]
          rw [e3]
          rfl
        · rw [if_neg (by omega), if_pos (by simp; omega), ← h3']
          have e3 : (rest.head? == some 40) = false := by
            rw [hrest, drop_end x p2 (by omega)]; rfl
          rw [e3]
          rfl

theorem lex_f (x : ByteArray) : Ev (fun k => resolventref06_Lex.f k x) (lres (Lx.lex (bl x))) := by
  by_cases h : 8192 < x.size
  · refine ⟨0, fun n _ => ?_⟩
    show resolventref06_Lex.f n x = _
    unfold resolventref06_Lex.f Lx.lex
    rw [if_pos (by omega), if_pos (by rw [bl_length]; exact h)]
    rfl
  · refine Ev.steps 0 0 (lex_loop x (by omega) _ x.size 0 (by omega) (by omega) [] (by simp) (Rest.start x h)) fun n => ?_
    unfold resolventref06_Lex.f
    rw [if_neg (by omega)]
    rfl

theorem rd49 (l : List Lx.Tok) (i : Nat) (h : i < l.length) : rd_T49 (l.map tokS) (i : Int) = tokS l[i] := by
  unfold rd_T49
  simp [List.getD_eq_getElem?_getD, h]
theorem rd77 (l : List Lx.Tok) (i : Nat) (h : i < l.length) : rd_T77 (l.map tokR) (i : Int) = tokR l[i] := by
  unfold rd_T77
  simp [List.getD_eq_getElem?_getD, h]

theorem same_loop (l : List Lx.Tok) (hl : l.length ≤ 9000) : ∀ d i, i ≤ l.length → l.length - i ≤ d → Ev (fun k => resolventlaw06_Same.l0 k (l.map tokS) (l.map tokR) (i : Int)) true := by
  intro d
  induction d with
  | zero =>
    intro i hi hd
    refine Ev.nows 1 fun n => ?_
    simp only [resolventlaw06_Same.l0]
    rw [if_neg (by simp; omega)]
  | succ d ih =>
    intro i hi hd
    by_cases he : i = l.length
    · exact ih i hi (by omega)
    have hlt : i < l.length := by omega
    refine Ev.step (ih (i + 1) (by omega) (by omega)) fun n => ?_
    simp only [resolventlaw06_Same.l0]
    rw [if_pos (by simp; omega), if_pos (by omega), if_pos (by simp; omega), rd49 l i hlt, rd77 l i hlt, if_pos (show (tokS l[i]).f0 = (tokR l[i]).f0 from rfl), if_pos (show (tokS l[i]).f1.toList = (tokR l[i]).f1.toList from rfl), if_pos (show (tokS l[i]).f2 = (tokR l[i]).f2 from rfl), if_pos (show (tokS l[i]).f3 = (tokR l[i]).f3 from rfl), if_neg (by simp [tokS, tokR]), wrap_small (by omega) (by omega)]
    rfl

theorem same_f (l : List Lx.Tok) (hl : l.length ≤ 9000) : Ev (fun k => resolventlaw06_Same.f k (l.map tokS) (l.map tokR)) true := by
  refine Ev.steps 0 0 (same_loop l hl l.length 0 (by omega) (by omega)) fun n => ?_
  unfold resolventlaw06_Same.f
  rw [if_pos (by simp)]
  rfl

theorem lexF_len (fuel : Nat) : ∀ p s ts, Lx.lexF fuel p s = .ok ts → ts.length ≤ fuel := by
  induction fuel with
  | zero => intro p s ts h; simp [Lx.lexF] at h
  | succ fuel ih =>
    intro p s ts h
    unfold Lx.lexF at h
    rcases hs : Lx.skip s with ⟨s1, ok⟩
    rw [hs] at h
    simp only at h
    split at h
    · simp at h
    · split at h
      · simp at h; subst h; simp
      · split at h
        · simp at h
        · split at h
          · simp at h
          · split at h
            · simp at h
            · rename_i l hl
              simp at h
              subst h
              have := ih _ _ _ hl
              simp; omega
theorem lex_len {s : List UInt8} {ts : List Lx.Tok} (h : Lx.lex s = .ok ts) : ts.length ≤ 9000 := by
  unfold Lx.lex at h
  split at h
  · simp at h
  · have := lexF_len _ _ _ _ h
    omega
end Ref

namespace Pure
open Ref
theorem LexTells : resolventlaw06_LexTells.Pure := by
  intro a0 _
  by_cases h : (a0.size : Int) > 9000
  · refine ⟨0, ?_⟩
    unfold resolventlaw06_LexTells.f
    rw [wakes, if_pos h]; rfl
  · obtain ⟨K, hK⟩ := lex_f a0
    rcases hq : Lx.lex (bl a0) with ⟨p, n⟩ | l
    · rw [hq] at hK
      obtain ⟨K2, hK2⟩ := same_f [] (by simp)
      refine ⟨K + K2, ?_⟩
      unfold resolventlaw06_LexTells.f lex_Lex.f
      have h1 : resolventref06_Lex.f (K + K2) a0 = _ := hK (K + K2) (by omega)
      have h2 : resolventlaw06_Same.f (K + K2) (List.map tokS []) (List.map tokR []) = _ := hK2 (K + K2) (by omega)
      rw [wakes, if_neg h, h1, hq]
      simp only [Option.bind_some, lres, if_true]
      simp only [List.map_nil] at h2
      rw [h2]
      rfl
    · rw [hq] at hK
      obtain ⟨K2, hK2⟩ := same_f l (lex_len hq)
      refine ⟨K + K2, ?_⟩
      unfold resolventlaw06_LexTells.f lex_Lex.f
      have h1 : resolventref06_Lex.f (K + K2) a0 = _ := hK (K + K2) (by omega)
      have h2 : resolventlaw06_Same.f (K + K2) (List.map tokS l) (List.map tokR l) = _ := hK2 (K + K2) (by omega)
      rw [wakes, if_neg h, h1, hq]
      simp only [Option.bind_some, lres, if_true]
      rw [h2]
      rfl
end Pure
end Go.Proofs.YtnimccfcgckheaaDoor
