import Derived.Test.YtnimccfcgckheaaDoorPresolventlaw06LexWords
import Derived.Test.YtnimccfcgckheaaDoorLxWords
import Derived.Test.YtnimccfcgckheaaDoorWakes
import Derived.Test.YtnimccfcgckheaaDoorRunEq
/-!
  LexWords: the plain half.
-/
namespace Go.Proofs.YtnimccfcgckheaaDoor.Pure
open Go.RowKit Go.Proofs.YtnimccfcgckheaaDoor.P Go.Proofs.YtnimccfcgckheaaDoorW.PrintWords Go.Proofs.YtnimccfcgckheaaDoorW.PrintLast
open Go Go.Proofs.YtnimccfcgckheaaDoor

theorem lex_f_ok {a : ByteArray} {l : List Lx.Tok} (h : Lx.lex (bl a) = .ok l) : lex_Lex.f a = some (l.map tokS, 0, 0) := by
  unfold lex_Lex.f; rw [h]
theorem rd_map (l : List Lx.Tok) (i : Nat) (h : i < l.length) : rd_T49 (l.map tokS) (i : Int) = tokS l[i] := by
  unfold rd_T49
  simp [List.getD_eq_getElem?_getD, h]
theorem dot_lex : lex_Lex.f (⟨#[46, 120]⟩ : ByteArray) = some ([tokS ⟨1, [46], 0, 0, false⟩, tokS ⟨1, [120], 0, 1, false⟩, tokS ⟨7, [], 0, 2, false⟩], 0, 0) :=
  lex_f_ok (l := [⟨1, [46], 0, 0, false⟩, ⟨1, [120], 0, 1, false⟩, ⟨7, [], 0, 2, false⟩]) (by kernel_rfl)

theorem words_word (k : Nat) (ts : List Lx.Tok) (i : Nat) (h : i < ts.length) (hm : Lx.Made ts[i]) (hk : ts[i].kind = 1 ∨ ts[i].kind = 3 ∨ ts[i].kind = 5)
    (hn : resolventlaw06_LexWords.l0 k (ts.map tokS) (wrap64 ((i : Int) + 1)) = some true) :
    resolventlaw06_LexWords.j1 (k + 1) (ts.map tokS) (i : Int) false (tokS ts[i]).f0 (tokS ts[i]).f1 (tokS ts[i]).f2 (tokS ts[i]).f3 (tokS ts[i]).f4 = some true := by
  generalize ts[i] = t at hm hk
  simp only [resolventlaw06_LexWords.j1]
  have hs : (tokS t).f1.size = t.text.length := by simp [tokS, ByteArray.size]
  have h32 := hm.1
  have hl : (tokS t).f1.toList = t.text := by simp [tokS, ByteArray.toList_eq]
  rw [if_neg (by decide), if_pos (by rw [hs]; omega), hl]
  have hl2 : bl ((tokS t).f1 ++ (⟨#[32]⟩ : ByteArray)) = t.text ++ [32] := by
    simp [tokS]
  by_cases hw : t.text = [46]
  · have hk1 : t.kind = 1 := by
      obtain ⟨-, h7 | ⟨s1, n, rest, hb, ht⟩⟩ := hm
      · omega
      · rw [hw] at ht; exact Lx.take_dot ht hk
    have hsome : ∃ z, lex_Lex.f ((tokS t).f1 ++ (⟨#[32]⟩ : ByteArray)) = some z := by
      unfold lex_Lex.f
      split <;> exact ⟨_, rfl⟩
    obtain ⟨z, hz⟩ := hsome
    rw [hz, Option.bind_some, if_pos hw, dot_lex, Option.bind_some]
    simp [rd_T49, tokS, hk1, hw, hn]
  · obtain ⟨t1, t2, e, e1, e2, e3⟩ := Lx.lex_again hm hk hw
    rw [lex_f_ok (l := [t1, t2]) (by rw [hl2]; exact e), Option.bind_some, if_neg hw]
    simp [rd_T49, tokS, e1, e2, e3, hn]

theorem words_loop (ts : List Lx.Tok) (h : ∀ t ∈ ts, Lx.Made t) (hl : ts.length ≤ 8193) : ∀ n i : Nat, i + n = ts.length →
    resolventlaw06_LexWords.l0 (2 * n + 1) (ts.map tokS) (i : Int) = some true := by
  intro n
  induction n with
  | zero =>
    intro i hi
    simp only [resolventlaw06_LexWords.l0]
    rw [if_neg (by simp; omega), wakes]
    rfl
  | succ n ih =>
    intro i hi
    have hi' : i < ts.length := by omega
    have hn : resolventlaw06_LexWords.l0 (2 * n + 1) (ts.map tokS) (wrap64 ((i : Int) + 1)) = some true := by
      rw [wrap_small (by omega) (by omega)]
      exact ih (i + 1) (by omega)
    have hm := h _ (List.getElem_mem hi')
    show resolventlaw06_LexWords.l0 (2 * n + 2 + 1) (ts.map tokS) (i : Int) = some true
    simp only [resolventlaw06_LexWords.l0]
    rw [if_pos (by simp; omega), if_pos (by omega), rd_map ts i hi']
    have hw := words_word (2 * n + 1) ts i hi' hm
    by_cases h1 : (tokS ts[i]).f0 = 1
    · rw [if_pos h1]; exact hw (.inl (by have : ((ts[i].kind : Nat) : Int) = 1 := h1; omega)) hn
    · rw [if_neg h1]
      by_cases h3 : (tokS ts[i]).f0 = 3
      · rw [if_pos h3]; exact hw (.inr (.inl (by have : ((ts[i].kind : Nat) : Int) = 3 := h3; omega))) hn
      · rw [if_neg h3]
        by_cases h5 : (tokS ts[i]).f0 = 5
        · have e : ((tokS ts[i]).f0 != 5) = false := by simp [h5]
          rw [e]; exact hw (.inr (.inr (by have : ((ts[i].kind : Nat) : Int) = 5 := h5; omega))) hn
        · have e : ((tokS ts[i]).f0 != 5) = true := by simp [h5]
          rw [e]
          simp only [resolventlaw06_LexWords.j1, if_true]
          exact hn

theorem LexWords : resolventlaw06_LexWords.Pure := by
  intro a0 _
  by_cases h : (a0.size : Int) > 2000
  · refine ⟨0, ?_⟩
    unfold resolventlaw06_LexWords.f
    rw [wakes, if_pos h]; rfl
  · rcases hq : Lx.lex (bl a0) with ⟨p, n⟩ | l
    · refine ⟨2 * 0 + 1, ?_⟩
      unfold resolventlaw06_LexWords.f lex_Lex.f
      rw [wakes, if_neg h, hq]
      simp only [Option.bind_some]
      split
      · exact words_loop [] (by simp) (by simp) 0 0 rfl
      · rfl
    · obtain ⟨h1, h2⟩ := Lx.lex_made hq
      refine ⟨2 * l.length + 1, ?_⟩
      unfold resolventlaw06_LexWords.f
      rw [if_neg h, lex_f_ok hq, Option.bind_some, if_pos rfl]
      exact words_loop l h2 h1 l.length 0 (by omega)

end Go.Proofs.YtnimccfcgckheaaDoor.Pure
