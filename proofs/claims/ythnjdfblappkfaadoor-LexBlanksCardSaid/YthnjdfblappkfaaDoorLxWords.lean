import Derived.Test.YthnjdfblappkfaaDoorLx2
/-!
  Plain Lean: a token that is a name, a variable or a sign is, by itself, that token.
-/
namespace Go.Proofs.YthnjdfblappkfaaDoor.Lx

/-- Where skipping stops there is no blank and no comment. -/
def Begin (s : List UInt8) : Prop := ∃ b r, s = b :: r ∧ blankB b = false ∧ b ≠ 37 ∧ ¬ (b = 47 ∧ r.head? = some 42)

theorem skipM_begin (s : List UInt8) : ∀ m s1, skipM m s = (s1, true) → s1 = [] ∨ Begin s1 := by
  induction s with
  | nil => intro m s1 h; cases m <;> simp [skipM] at h <;> exact .inl h
  | cons b r ih =>
    intro m s1 h
    cases m with
    | n =>
      simp only [skipM] at h
      split at h
      · exact ih _ _ h
      · split at h
        · exact ih _ _ h
        · split at h
          · exact ih _ _ h
          · rename_i h1 h2 h3
            simp at h
            exact .inr ⟨b, r, h.symm, by simpa using h1, h2, h3⟩
    | l => simp only [skipM] at h; split at h <;> exact ih _ _ h
    | a st => simp only [skipM] at h; exact ih _ _ h
    | c st => simp only [skipM] at h; split at h <;> exact ih _ _ h
    | e => simp only [skipM] at h; exact ih _ _ h

theorem skip_of_begin {s : List UInt8} (h : Begin s) : skip s = (s, true) := by
  obtain ⟨b, r, rfl, h1, h2, h3⟩ := h
  simp only [skip, skipM]
  rw [if_neg (by simp [h1]), if_neg h2, if_neg h3]

/-- What every token of a text is. -/
def Made (t : Tok) : Prop := t.text.length ≤ 32 ∧ (t.kind = 7 ∨ ∃ s1 n rest, Begin s1 ∧ take s1 = .ok (t.kind, t.text, n, rest))

theorem lexF_made (fuel : Nat) : ∀ p s ts, lexF fuel p s = .ok ts → ts.length ≤ fuel ∧ ∀ t ∈ ts, Made t := by
  induction fuel with
  | zero => intro p s ts h; simp [lexF] at h
  | succ fuel ih =>
    intro p s ts h
    unfold lexF at h
    rcases hs : skip s with ⟨s1, ok⟩
    rw [hs] at h
    simp only at h
    split at h
    · simp at h
    · rename_i hok
      replace hok : ok = true := by simpa using hok
      subst hok
      split at h
      · simp at h; subst h; simp [Made]
      · rename_i hne
        have hb : Begin s1 := (skipM_begin s .n s1 hs).resolve_left hne
        split at h
        · simp at h
        · rename_i k t n rest hk
          split at h
          · simp at h
          · rename_i h32
            split at h
            · simp at h
            · rename_i l hl
              simp at h
              subst h
              obtain ⟨i1, i2⟩ := ih _ _ _ hl
              refine ⟨by simp; omega, fun t' ht => ?_⟩
              rcases List.mem_cons.1 ht with rfl | ht
              · exact ⟨by simpa using h32, .inr ⟨s1, n, rest, hb, hk⟩⟩
              · exact i2 t' ht

theorem takeWhile_again {p : UInt8 → Bool} (c : UInt8) (hc : p c = false) (l : List UInt8) : (l.takeWhile p ++ [c]).takeWhile p = l.takeWhile p ∧ (l.takeWhile p ++ [c]).dropWhile p = [c] := by
  induction l with
  | nil => simp [hc]
  | cons b r ih =>
    by_cases hb : p b = true
    · simp only [List.takeWhile_cons, hb, if_true, List.cons_append, List.dropWhile_cons]
      exact ⟨by rw [ih.1], ih.2⟩
    · simp [hb, hc]

theorem begin_word {b : UInt8} {r w : List UInt8} {c : UInt8} (hc : c ≠ 42) (h : Begin (b :: r)) (hw : w = [] ∨ ∃ p : UInt8 → Bool, w = r.takeWhile p) : Begin (b :: (w ++ [c])) := by
  obtain ⟨b', r', e, h1, h2, h3⟩ := h
  simp at e
  obtain ⟨rfl, rfl⟩ := e
  refine ⟨b, _, rfl, h1, h2, fun ⟨g1, g2⟩ => h3 ⟨g1, ?_⟩⟩
  rcases hw with rfl | ⟨p, rfl⟩
  · simp at g2; exact absurd g2 hc
  · cases r with
    | nil => simp at g2; exact absurd g2 hc
    | cons d r =>
      by_cases hd : p d = true
      · simp [hd] at g2 ⊢; exact g2
      · simp [hd] at g2; exact absurd g2 hc

/-- A word alone, with a blank behind. -/
theorem take_again {s1 : List UInt8} {k : Nat} {w : List UInt8} {n : Int} {rest : List UInt8} (hb : Begin s1) (h : take s1 = .ok (k, w, n, rest)) (hk : k = 1 ∨ k = 3 ∨ k = 5) (hw : w ≠ [46]) :
    Begin (w ++ [32]) ∧ ∃ n', take (w ++ [32]) = .ok (k, w, n', [32]) := by
  cases s1 with
  | nil => simp [take] at h
  | cons b r =>
    simp only [take] at h
    split at h
    · rename_i h1
      simp at h
      obtain ⟨rfl, rfl, rfl, rfl⟩ := h
      have hl : letterB b = true := by simp [letterB, h1]
      have e := takeWhile_again (p := letterB) 32 (by decide) (b :: r)
      rw [List.takeWhile_cons, if_pos hl] at e ⊢
      refine ⟨begin_word (by decide) hb (.inr ⟨_, rfl⟩), 0, ?_⟩
      simp only [List.cons_append] at e ⊢
      simp only [take, h1, if_true]
      rw [e.1, e.2]
    · rename_i h1
      split at h
      · rename_i h2
        simp at h
        obtain ⟨rfl, rfl, rfl, rfl⟩ := h
        have hl : letterB b = true := by simp [letterB, h2]
        have e := takeWhile_again (p := letterB) 32 (by decide) (b :: r)
        rw [List.takeWhile_cons, if_pos hl] at e ⊢
        refine ⟨begin_word (by decide) hb (.inr ⟨_, rfl⟩), 0, ?_⟩
        simp only [List.cons_append] at e ⊢
        simp only [take]
        rw [if_neg h1, if_pos h2, e.1, e.2]
      · rename_i h2
        split at h
        · split at h
          · simp at h; omega
          · simp at h
        · rename_i h3
          split at h
          · rename_i h4
            simp at h
            obtain ⟨rfl, rfl, rfl, rfl⟩ := h
            refine ⟨begin_word (w := []) (by decide) hb (.inl rfl), 0, ?_⟩
            simp only [List.cons_append, List.nil_append, take]
            rw [if_neg h1, if_neg h2, if_neg h3, if_pos h4]
          · rename_i h4
            split at h
            · rename_i h5
              simp at h
              obtain ⟨rfl, rfl, rfl, rfl⟩ := h
              refine ⟨begin_word (w := []) (by decide) hb (.inl rfl), 0, ?_⟩
              simp only [List.cons_append, List.nil_append, take]
              rw [if_neg h1, if_neg h2, if_neg h3, if_neg h4, if_pos h5]
            · rename_i h5
              split at h
              · rename_i h6
                split at h
                · simp at h; omega
                · simp at h
                  obtain ⟨rfl, rfl, rfl, rfl⟩ := h
                  have e := takeWhile_again (p := symbolB) 32 (by decide) (b :: r)
                  rw [List.takeWhile_cons, if_pos h6] at e hw ⊢
                  refine ⟨begin_word (by decide) hb (.inr ⟨_, rfl⟩), 0, ?_⟩
                  simp only [List.cons_append] at e ⊢
                  simp only [take]
                  rw [if_neg h1, if_neg h2, if_neg h3, if_neg h4, if_neg h5, if_pos h6, e.1, if_neg (fun hx => hw hx.1), e.2]
              · split at h
                · split at h
                  · simp at h; omega
                  · simp at h
                · simp at h

theorem take_dot {s1 : List UInt8} {k : Nat} {n : Int} {rest : List UInt8} (h : take s1 = .ok (k, [46], n, rest)) (hk : k = 1 ∨ k = 3 ∨ k = 5) : k = 1 := by
  cases s1 with
  | nil => simp [take] at h
  | cons b r =>
    simp only [take] at h
    split at h
    · simp at h; omega
    · split at h
      · rename_i h2
        have hl : letterB b = true := by simp [letterB, h2]
        rw [List.takeWhile_cons, if_pos hl] at h
        simp at h
        obtain ⟨-, ⟨rfl, -⟩, -⟩ := h
        exact absurd h2 (by decide)
      · split at h
        · split at h
          · simp at h
          · simp at h
        · split at h
          · rename_i h4
            simp at h
            obtain ⟨-, rfl, -⟩ := h
            exact absurd h4 (by decide)
          · repeat' split at h
            all_goals first | (simp at h; omega) | simp at h

theorem lex_made {s : List UInt8} {ts : List Tok} (h : lex s = .ok ts) : ts.length ≤ 8193 ∧ ∀ t ∈ ts, Made t := by
  unfold lex at h
  split at h
  · simp at h
  · rename_i h1
    obtain ⟨i1, i2⟩ := lexF_made _ _ _ _ h
    exact ⟨by omega, i2⟩

theorem lex_again {t : Tok} (h : Made t) (hk : t.kind = 1 ∨ t.kind = 3 ∨ t.kind = 5) (hw : t.text ≠ [46]) :
    ∃ t1 t2, lex (t.text ++ [32]) = .ok [t1, t2] ∧ t1.kind = t.kind ∧ t1.text = t.text ∧ t1.pos = 0 := by
  obtain ⟨h32, h7 | ⟨s1, n, rest, hb, ht⟩⟩ := h
  · omega
  obtain ⟨hb', n', ht'⟩ := take_again hb ht hk hw
  refine ⟨⟨t.kind, t.text, n', 0, false⟩, ⟨7, [], 0, t.text.length + 1, false⟩, ?_, rfl, rfl, rfl⟩
  unfold lex
  rw [if_neg (by simp; omega)]
  have e1 : (t.text ++ [32]).length + 1 = (t.text.length + 1) + 1 := by simp
  rw [e1]
  unfold lexF
  rw [skip_of_begin hb']
  simp only
  rw [if_neg (by simp), if_neg (by simp), ht']
  simp only
  rw [if_neg (by omega)]
  have e2 : ∀ p, lexF (t.text.length + 1) p [32] = .ok [⟨7, [], 0, p + 1, false⟩] := by
    intro p
    have hs : skip [32] = ([], true) := by decide
    unfold lexF
    rw [hs]
    simp
  rw [e2]
  simp

end Go.Proofs.YthnjdfblappkfaaDoor.Lx
