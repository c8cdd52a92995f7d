/-
  Plain Lean: what the lexer tells of a text with a newline and another text behind it; and of a text with blanks and comments ahead.
-/
import Derived.Test.YthnjdfblappkfaaDoorLxWords
namespace Go.Proofs.YthnjdfblappkfaaDoor.Lx

/-- A mode's kind (the text where a comment began aside). -/
def Mode.alike : Mode → Mode → Prop
  | .n, .n => True
  | .l, .l => True
  | .a _, .a _ => True
  | .c _, .c _ => True
  | .e, .e => True
  | _, _ => False

theorem head_app (r t : List UInt8) (z : UInt8) (hz : z ≠ 10) : ((r ++ 10 :: t).head? = some z) ↔ (r.head? = some z) := by
  cases r with
  | nil => simp; exact fun h => hz h.symm
  | cons c r => simp

theorem skipM_app (s t : List UInt8) : ∀ m m', Mode.alike m m' → (m = .e → s.head? = some 47) → (∀ st, m = .a st → s.head? = some 42) → ∀ s1, skipM m s = (s1, true) →
    (s1 = [] → skipM m' (s ++ 10 :: t) = skipM .n t) ∧ (s1 ≠ [] → skipM m' (s ++ 10 :: t) = (s1 ++ 10 :: t, true)) := by
  induction s with
  | nil =>
    intro m m' hm he ha s1 h
    cases m with
    | n => cases m' <;> simp [Mode.alike] at hm; simp [skipM] at h; subst h; simp [skipM]; intro h; exact absurd h (by decide)
    | l => cases m' <;> simp [Mode.alike] at hm; simp [skipM] at h; subst h; simp [skipM]
    | a st => exact absurd (ha st rfl) (by simp)
    | c st => simp [skipM] at h
    | e => exact absurd (he rfl) (by simp)
  | cons b r ih =>
    intro m m' hm he ha s1 h
    cases m with
    | n =>
      cases m' <;> simp [Mode.alike] at hm
      simp only [skipM, List.cons_append] at h ⊢
      by_cases h1 : blankB b = true
      · rw [if_pos h1] at h ⊢
        exact ih .n .n trivial (by simp) (by simp) s1 h
      · rw [if_neg h1] at h ⊢
        by_cases h2 : b = 37
        · rw [if_pos h2] at h ⊢
          exact ih .l .l trivial (by simp) (by simp) s1 h
        · rw [if_neg h2] at h ⊢
          by_cases h3 : b = 47 ∧ r.head? = some 42
          · rw [if_pos h3] at h
            rw [if_pos ⟨h3.1, (head_app r t 42 (by decide)).2 h3.2⟩]
            exact ih (.a (b :: r)) (.a (b :: (r ++ 10 :: t))) trivial (by simp) (fun _ _ => h3.2) s1 h
          · rw [if_neg h3] at h
            rw [if_neg (fun g => h3 ⟨g.1, (head_app r t 42 (by decide)).1 g.2⟩)]
            simp at h
            subst h
            simp
    | l =>
      cases m' <;> simp [Mode.alike] at hm
      simp only [skipM, List.cons_append] at h ⊢
      by_cases h1 : b = 10
      · rw [if_pos h1] at h ⊢
        exact ih .n .n trivial (by simp) (by simp) s1 h
      · rw [if_neg h1] at h ⊢
        exact ih .l .l trivial (by simp) (by simp) s1 h
    | a st =>
      cases m' with
      | a st' =>
        simp only [skipM, List.cons_append] at h ⊢
        exact ih (.c st) (.c st') trivial (by simp) (by simp) s1 h
      | _ => simp [Mode.alike] at hm
    | c st =>
      cases m' with
      | c st' =>
        simp only [skipM, List.cons_append] at h ⊢
        by_cases h1 : b = 42 ∧ r.head? = some 47
        · rw [if_pos h1] at h
          rw [if_pos ⟨h1.1, (head_app r t 47 (by decide)).2 h1.2⟩]
          exact ih .e .e trivial (fun _ => h1.2) (by simp) s1 h
        · rw [if_neg h1] at h
          rw [if_neg (fun g => h1 ⟨g.1, (head_app r t 47 (by decide)).1 g.2⟩)]
          exact ih (.c st) (.c st') trivial (by simp) (by simp) s1 h
      | _ => simp [Mode.alike] at hm
    | e =>
      cases m' <;> simp [Mode.alike] at hm
      simp only [skipM, List.cons_append] at h ⊢
      exact ih .n .n trivial (by simp) (by simp) s1 h

theorem skip_app {s s1 : List UInt8} (t : List UInt8) (h : skip s = (s1, true)) :
    (s1 = [] → skip (s ++ 10 :: t) = skip t) ∧ (s1 ≠ [] → skip (s ++ 10 :: t) = (s1 ++ 10 :: t, true)) :=
  skipM_app s t .n .n trivial (by simp) (by simp) s1 h

theorem takeWhile_app (p : UInt8 → Bool) (hp : p 10 = false) (l t : List UInt8) : (l ++ 10 :: t).takeWhile p = l.takeWhile p ∧ (l ++ 10 :: t).dropWhile p = l.dropWhile p ++ 10 :: t := by
  induction l with
  | nil => simp [hp]
  | cons b r ih =>
    by_cases hb : p b = true
    · simp [hb, ih.1, ih.2]
    · simp [hb]

theorem quotedM_app (t : List UInt8) (n : Nat) : ∀ (s out w rest : List UInt8), s.length ≤ n → quotedM out s = some (w, rest) → quotedM out (s ++ 10 :: t) = some (w, rest ++ 10 :: t) := by
  induction n with
  | zero =>
    intro s out w rest hn h
    cases s with
    | nil => simp [quotedM] at h
    | cons b r => simp at hn
  | succ n ih =>
    intro s out w rest hn h
    cases s with
    | nil => simp [quotedM] at h
    | cons b r =>
      simp at hn
      unfold quotedM at h
      rw [List.cons_append]
      unfold quotedM
      by_cases h39 : b = 39
      · rw [if_pos h39] at h ⊢
        cases r with
        | nil =>
          simp at h
          obtain ⟨rfl, rfl⟩ := h
          simp
        | cons c r' =>
          have hn' : r'.length + 1 ≤ n := by simpa using hn
          simp only [List.cons_append] at h ⊢
          by_cases hc : c = 39
          · rw [if_pos hc] at h ⊢
            exact ih r' _ _ _ (by omega) h
          · rw [if_neg hc] at h ⊢
            simp at h
            obtain ⟨rfl, rfl⟩ := h
            simp
      · rw [if_neg h39] at h ⊢
        by_cases h92 : b = 92
        · rw [if_pos h92] at h ⊢
          cases r with
          | nil => simp at h
          | cons c r' =>
            have hn' : r'.length + 1 ≤ n := by simpa using hn
            simp only [List.cons_append] at h ⊢
            by_cases k1 : c = 92
            · rw [if_pos k1] at h ⊢; exact ih r' _ _ _ (by omega) h
            rw [if_neg k1] at h ⊢
            by_cases k2 : c = 39
            · rw [if_pos k2] at h ⊢; exact ih r' _ _ _ (by omega) h
            rw [if_neg k2] at h ⊢
            by_cases k3 : c = 110
            · rw [if_pos k3] at h ⊢; exact ih r' _ _ _ (by omega) h
            rw [if_neg k3] at h ⊢
            by_cases k4 : c = 116
            · rw [if_pos k4] at h ⊢; exact ih r' _ _ _ (by omega) h
            rw [if_neg k4] at h
            simp at h
        · rw [if_neg h92] at h ⊢
          by_cases hr : b < 32 ∨ 126 < b
          · rw [if_pos hr] at h; simp at h
          · rw [if_neg hr] at h ⊢
            exact ih r _ _ _ hn h

theorem take_app {s w rest : List UInt8} {k : Nat} {n : Int} (t : List UInt8) (h : take s = .ok (k, w, n, rest)) : take (s ++ 10 :: t) = .ok (k, w, n, rest ++ 10 :: t) := by
  cases s with
  | nil => simp [take] at h
  | cons b r =>
    have e1 := takeWhile_app letterB (by decide) (b :: r) t
    have e2 := takeWhile_app symbolB (by decide) (b :: r) t
    rw [List.cons_append] at e1 e2 ⊢
    simp only [take] at h ⊢
    rw [e1.1, e1.2, e2.1, e2.2]
    by_cases h1 : lowerB b = true
    · rw [if_pos h1] at h ⊢; simp at h; simp [h]
    rw [if_neg h1] at h ⊢
    by_cases h2 : upperB b = true
    · rw [if_pos h2] at h ⊢; simp at h; simp [h]
    rw [if_neg h2] at h ⊢
    by_cases h3 : digitB b = true
    · rw [if_pos h3] at h ⊢
      split at h
      · rename_i hc
        rw [if_pos hc]; simp at h; simp [h]
      · simp at h
    rw [if_neg h3] at h ⊢
    by_cases h4 : signB b = true
    · rw [if_pos h4] at h ⊢; simp at h; obtain ⟨rfl, rfl, rfl, rfl⟩ := h; rfl
    rw [if_neg h4] at h ⊢
    by_cases h5 : bangB b = true
    · rw [if_pos h5] at h ⊢; simp at h; obtain ⟨rfl, rfl, rfl, rfl⟩ := h; rfl
    rw [if_neg h5] at h ⊢
    by_cases h6 : symbolB b = true
    · rw [if_pos h6] at h ⊢
      have hh : (((b :: r).dropWhile symbolB ++ 10 :: t).head?.all fun c => blankB c || c == 37) = (((b :: r).dropWhile symbolB).head?.all fun c => blankB c || c == 37) := by
        cases (b :: r).dropWhile symbolB with
        | nil => rfl
        | cons c l => rfl
      rw [hh]
      split at h
      · rename_i hc
        rw [if_pos hc]; simp at h; obtain ⟨rfl, rfl, rfl, rfl⟩ := h; rfl
      · rename_i hc
        rw [if_neg hc]; simp at h; obtain ⟨rfl, rfl, rfl, rfl⟩ := h; rfl
    rw [if_neg h6] at h ⊢
    by_cases h7 : b = 39
    · rw [if_pos h7] at h ⊢
      rcases hq : quotedM [] r with _ | ⟨w', rest'⟩
      · rw [hq] at h; simp at h
      · rw [hq] at h
        rw [quotedM_app t r.length r [] w' rest' (Nat.le_refl _) hq]
        simp at h
        obtain ⟨rfl, rfl, rfl, rfl⟩ := h
        rfl
    · rw [if_neg h7] at h; simp at h

def Tok.shift (c : Nat) (t : Tok) : Tok := { t with pos := c + t.pos }
def shiftR (c : Nat) : Except (Nat × Nat) (List Tok) → Except (Nat × Nat) (List Tok)
  | .error (p, n) => .error (c + p, n)
  | .ok l => .ok (l.map (Tok.shift c))

/-- Places move with the begin; rounds enough are enough. -/
theorem lexF_shift (c : Nat) (f : Nat) : ∀ g p s, s.length < f → s.length < g → lexF f (c + p) s = shiftR c (lexF g p s) := by
  induction f with
  | zero => intro g p s h; omega
  | succ f ih =>
    intro g p s hf hg
    obtain ⟨g, rfl⟩ : ∃ m, g = m + 1 := ⟨g - 1, by omega⟩
    have hle := skip_le s
    unfold lexF
    rcases hs : skip s with ⟨s1, ok⟩
    rw [hs] at hle
    simp only at hle ⊢
    have e : c + p + (s.length - s1.length) = c + (p + (s.length - s1.length)) := by omega
    rw [e]
    split
    · rfl
    · split
      · simp [shiftR, Tok.shift]
      · rcases ht : take s1 with er | ⟨k, w, n, rest⟩
        · rfl
        · have hlt := take_lt s1 k w n rest ht
          simp only
          split
          · rfl
          · have e2 : c + (p + (s.length - s1.length)) + (s1.length - rest.length) = c + (p + (s.length - s1.length) + (s1.length - rest.length)) := by omega
            rw [e2, ih g _ rest (by omega) (by omega)]
            rcases lexF g (p + (s.length - s1.length) + (s1.length - rest.length)) rest with ⟨a, b⟩ | l
            · rfl
            · simp [shiftR, Tok.shift]

/-- What is told of two texts with a newline between, the first of which is all right. -/
def both (c : Nat) (l : List Tok) : Except (Nat × Nat) (List Tok) → Except (Nat × Nat) (List Tok)
  | .error (p, n) => .error (c + p, n)
  | .ok us => .ok (l.dropLast ++ us.map (Tok.shift c))

theorem lexF_ne (f : Nat) : ∀ p s l, lexF f p s = .ok l → l ≠ [] := by
  cases f with
  | zero => intro p s l h; simp [lexF] at h
  | succ f =>
    intro p s l h
    unfold lexF at h
    rcases hs : skip s with ⟨s1, ok⟩
    rw [hs] at h
    simp only at h
    split at h
    · simp at h
    · split at h
      · simp at h; subst h; simp
      · split at h
        · simp at h
        · split at h
          · simp at h
          · split at h
            · simp at h
            · simp at h; subst h; simp

theorem lexF_app (t : List UInt8) (G : Nat) (hG : t.length < G) (f : Nat) : ∀ g p s l, s.length < f → s.length + 1 + t.length < g → lexF f p s = .ok l →
    lexF g p (s ++ 10 :: t) = both (p + s.length + 1) l (lexF G 0 t) := by
  induction f with
  | zero => intro g p s l h; omega
  | succ f ih =>
    intro g p s l hf hg h
    obtain ⟨g, rfl⟩ : ∃ m, g = m + 1 := ⟨g - 1, by omega⟩
    have hle := skip_le s
    unfold lexF at h
    rcases hs : skip s with ⟨s1, ok⟩
    rw [hs] at h hle
    simp only at h hle
    split at h
    · simp at h
    · rename_i hok
      replace hok : ok = true := by simpa using hok
      subst hok
      obtain ⟨a1, a2⟩ := skip_app t hs
      split at h
      · rename_i hnil
        simp at h
        subst h
        have hsk := a1 hnil
        have hsh := lexF_shift (p + s.length + 1) (g + 1) G 0 t (by omega) hG
        have e : lexF (g + 1) p (s ++ 10 :: t) = lexF (g + 1) (p + s.length + 1 + 0) t := by
          unfold lexF
          rw [hsk]
          have hlt := skip_le t
          rcases hst : skip t with ⟨t1, okt⟩
          rw [hst] at hlt
          simp only at hlt ⊢
          have e : p + ((s ++ 10 :: t).length - t1.length) = p + s.length + 1 + 0 + (t.length - t1.length) := by simp; omega
          rw [e]
        rw [e, hsh]
        rcases lexF G 0 t with ⟨a, b⟩ | us
        · rfl
        · simp [shiftR, both]
      · rename_i hne
        have hsk := a2 hne
        split at h
        · simp at h
        · rename_i k w n rest ht
          have hlt := take_lt s1 k w n rest ht
          split at h
          · simp at h
          · rename_i h32
            rcases hl : lexF f (p + (s.length - s1.length) + (s1.length - rest.length)) rest with er | l'
            · rw [hl] at h; simp at h
            · rw [hl] at h
              simp at h
              subst h
              have hne' := lexF_ne _ _ _ _ hl
              have ihz := ih g (p + (s.length - s1.length) + (s1.length - rest.length)) rest l' (by omega) (by omega) hl
              generalize lexF G 0 t = Z at ihz ⊢
              unfold lexF
              rw [hsk]
              simp only
              rw [if_neg (by simp), if_neg (by simp), take_app t ht]
              simp only
              rw [if_neg h32]
              have e1 : p + ((s ++ 10 :: t).length - (s1 ++ 10 :: t).length) = p + (s.length - s1.length) := by simp; omega
              have e2 : (s1 ++ 10 :: t).length - (rest ++ 10 :: t).length = s1.length - rest.length := by simp; omega
              rw [e1, e2, ihz]
              have e3 : p + (s.length - s1.length) + (s1.length - rest.length) + rest.length + 1 = p + s.length + 1 := by omega
              rw [e3]
              have e4 : ((rest ++ 10 :: t).head? == some 40) = (rest.head? == some 40) := by
                cases rest with
                | nil => rfl
                | cons c r => rfl
              rw [e4]
              rcases Z with ⟨a, b⟩ | us
              · rfl
              · simp [both, List.dropLast_cons_of_ne_nil hne']

theorem lex_app {s : List UInt8} {l : List Tok} (t : List UInt8) (hs : s.length ≤ 1000) (ht : t.length ≤ 1000) (h : lex s = .ok l) : lex (s ++ 10 :: t) = both (s.length + 1) l (lex t) := by
  unfold lex at h ⊢
  rw [if_neg (by omega)] at h
  rw [if_neg (by simp; omega), if_neg (by omega)]
  have := lexF_app t (t.length + 1) (by omega) (s.length + 1) ((s ++ 10 :: t).length + 1) 0 s l (by omega) (by simp; omega) h
  rw [this, Nat.zero_add]

theorem lex_ne {s : List UInt8} {l : List Tok} (h : lex s = .ok l) : l ≠ [] := by
  unfold lex at h
  split at h
  · simp at h
  · exact lexF_ne _ _ _ _ h

/-- Blanks and comments ahead. -/
def ahead : List UInt8 := [32, 47, 42, 32, 120, 32, 42, 47, 32, 37, 32, 121, 10, 9]
theorem skip_ahead (t : List UInt8) : skip (ahead ++ t) = skip t := rfl
theorem lex_ahead (t : List UInt8) (ht : t.length ≤ 1000) : lex (ahead ++ t) = shiftR 14 (lex t) := by
  have hal : (ahead ++ t).length = 14 + t.length := by simp [ahead]; omega
  unfold lex
  rw [if_neg (by omega), if_neg (by omega), hal]
  have hsh := lexF_shift 14 (14 + t.length + 1) (t.length + 1) 0 t (by omega) (by omega)
  rw [← hsh]
  have hlt := skip_le t
  unfold lexF
  rw [skip_ahead]
  rcases hst : skip t with ⟨t1, okt⟩
  rw [hst] at hlt
  simp only at hlt ⊢
  rw [hal, show 0 + (14 + t.length - t1.length) = 14 + 0 + (t.length - t1.length) by omega]

end Go.Proofs.YthnjdfblappkfaaDoor.Lx
