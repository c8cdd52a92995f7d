/-
  Plain Lean: where tokens lie, and what lies between them.
-/
import Derived.Test.YthnjdfblappkfaaDoorLxCat
import Derived.Test.YthnjdfblappkfaaDoorRuleCall
namespace Go.Proofs.YthnjdfblappkfaaDoor.Lx

/-- What was skipped is, by itself, skipped whole. -/
theorem skipM_pre (s : List UInt8) : ∀ m m', Mode.alike m m' → (m = .e → s.head? = some 47) → (∀ st, m = .a st → s.head? = some 42) → ∀ s1, skipM m s = (s1, true) →
    ∃ u, s = u ++ s1 ∧ skipM m' u = ([], true) ∧ ((m = .e ∨ ∃ st, m = .a st ∨ m = .c st) → u ≠ []) := by
  induction s with
  | nil =>
    intro m m' hm he ha s1 h
    cases m with
    | n => cases m' <;> simp [Mode.alike] at hm; simp [skipM] at h; subst h; exact ⟨[], rfl, rfl, by simp⟩
    | l => cases m' <;> simp [Mode.alike] at hm; simp [skipM] at h; subst h; exact ⟨[], rfl, rfl, by simp⟩
    | a st => exact absurd (ha st rfl) (by simp)
    | c st => simp [skipM] at h
    | e => exact absurd (he rfl) (by simp)
  | cons b r ih =>
    intro m m' hm he ha s1 h
    cases m with
    | n =>
      cases m' <;> simp [Mode.alike] at hm
      simp only [skipM] at h
      by_cases h1 : blankB b = true
      · rw [if_pos h1] at h
        obtain ⟨u, hu, hk, _⟩ := ih .n .n trivial (by simp) (by simp) s1 h
        exact ⟨b :: u, by rw [hu]; rfl, by simp only [skipM]; rw [if_pos h1]; exact hk, by simp⟩
      · rw [if_neg h1] at h
        by_cases h2 : b = 37
        · rw [if_pos h2] at h
          obtain ⟨u, hu, hk, _⟩ := ih .l .l trivial (by simp) (by simp) s1 h
          exact ⟨b :: u, by rw [hu]; rfl, by simp only [skipM]; rw [if_neg h1, if_pos h2]; exact hk, by simp⟩
        · rw [if_neg h2] at h
          by_cases h3 : b = 47 ∧ r.head? = some 42
          · rw [if_pos h3] at h
            obtain ⟨u, hu, hk, hne⟩ := ih (.a (b :: r)) (.a []) trivial (by simp) (fun _ _ => h3.2) s1 h
            have hu' := hne (.inr ⟨_, .inl rfl⟩)
            obtain ⟨v, hv, hkv, _⟩ := ih (.a (b :: r)) (.a (b :: u)) trivial (by simp) (fun _ _ => h3.2) s1 h
            have huv : u = v := List.append_cancel_right (hu.symm.trans hv)
            subst huv
            refine ⟨b :: u, by rw [hu]; rfl, ?_, by simp⟩
            simp only [skipM]
            have hh : u.head? = some 42 := by
              cases u with
              | nil => exact absurd rfl hu'
              | cons c u' => have := h3.2; rw [hu] at this; simpa using this
            rw [if_neg h1, if_neg h2, if_pos ⟨h3.1, hh⟩]
            exact hkv
          · rw [if_neg h3] at h
            simp at h
            subst h
            exact ⟨[], rfl, rfl, by simp⟩
    | l =>
      cases m' <;> simp [Mode.alike] at hm
      simp only [skipM] at h
      by_cases h1 : b = 10
      · rw [if_pos h1] at h
        obtain ⟨u, hu, hk, _⟩ := ih .n .n trivial (by simp) (by simp) s1 h
        exact ⟨b :: u, by rw [hu]; rfl, by simp only [skipM]; rw [if_pos h1]; exact hk, by simp⟩
      · rw [if_neg h1] at h
        obtain ⟨u, hu, hk, _⟩ := ih .l .l trivial (by simp) (by simp) s1 h
        exact ⟨b :: u, by rw [hu]; rfl, by simp only [skipM]; rw [if_neg h1]; exact hk, by simp⟩
    | a st =>
      cases m' with
      | a st' =>
        simp only [skipM] at h
        obtain ⟨u, hu, hk, _⟩ := ih (.c st) (.c st') trivial (by simp) (by simp) s1 h
        exact ⟨b :: u, by rw [hu]; rfl, by simp only [skipM]; exact hk, by simp⟩
      | _ => simp [Mode.alike] at hm
    | c st =>
      cases m' with
      | c st' =>
        simp only [skipM] at h
        by_cases h1 : b = 42 ∧ r.head? = some 47
        · rw [if_pos h1] at h
          obtain ⟨u, hu, hk, hne⟩ := ih .e .e trivial (fun _ => h1.2) (by simp) s1 h
          have hu' := hne (.inl rfl)
          have hh : u.head? = some 47 := by
            cases u with
            | nil => exact absurd rfl hu'
            | cons c u' => have := h1.2; rw [hu] at this; simpa using this
          exact ⟨b :: u, by rw [hu]; rfl, by simp only [skipM]; rw [if_pos ⟨h1.1, hh⟩]; exact hk, by simp⟩
        · rw [if_neg h1] at h
          obtain ⟨u, hu, hk, hne⟩ := ih (.c st) (.c st') trivial (by simp) (by simp) s1 h
          have hu' := hne (.inr ⟨_, .inr rfl⟩)
          have hh : ¬ (b = 42 ∧ u.head? = some 47) := by
            rintro ⟨g1, g2⟩
            refine h1 ⟨g1, ?_⟩
            rw [hu]
            cases u with
            | nil => exact absurd rfl hu'
            | cons c u' => simpa using g2
          exact ⟨b :: u, by rw [hu]; rfl, by simp only [skipM]; rw [if_neg hh]; exact hk, by simp⟩
      | _ => simp [Mode.alike] at hm
    | e =>
      cases m' <;> simp [Mode.alike] at hm
      simp only [skipM] at h
      obtain ⟨u, hu, hk, _⟩ := ih .n .n trivial (by simp) (by simp) s1 h
      exact ⟨b :: u, by rw [hu]; rfl, by simp only [skipM]; exact hk, by simp⟩

theorem skip_pre {s s1 : List UInt8} (h : skip s = (s1, true)) : skip (s.take (s.length - s1.length)) = ([], true) := by
  obtain ⟨u, hu, hk, _⟩ := skipM_pre s .n .n trivial (by simp) (by simp) s1 h
  have : s.take (s.length - s1.length) = u := by
    rw [hu, List.length_append, Nat.add_sub_cancel, List.take_left]
  rw [this]; exact hk

/-- A text of blanks alone is one token: its end. -/
theorem lex_blank {u : List UInt8} (hu : u.length ≤ 8192) (h : skip u = ([], true)) : ∃ t, lex u = .ok [t] := by
  unfold lex
  rw [if_neg (by omega)]
  unfold lexF
  rw [h]
  exact ⟨_, rfl⟩

/-- How tokens follow one another. -/
def Chain (s : List UInt8) : Nat → List Tok → Prop
  | _, [] => False
  | p, x :: l => p ≤ x.pos ∧ x.pos ≤ s.length ∧ skip ((s.drop p).take (x.pos - p)) = ([], true) ∧
      ((x.kind = 7 ∧ l = [] ∧ x.pos = s.length) ∨ (∃ p2, x.pos < p2 ∧ p2 ≤ s.length ∧ take (s.drop x.pos) = .ok (x.kind, x.text, x.n, s.drop p2) ∧ Chain s p2 l))

theorem chain (s : List UInt8) (f : Nat) : ∀ p l, p ≤ s.length → s.length - p < f → lexF f p (s.drop p) = .ok l → Chain s p l := by
  induction f with
  | zero => intro p l hp hf; omega
  | succ f ih =>
    intro p l hp hf h
    have hle := skip_le (s.drop p)
    have hsuf := skip_suffix (s.drop p)
    have hlen : (s.drop p).length = s.length - p := List.length_drop
    unfold lexF at h
    rcases hs : skip (s.drop p) with ⟨s1, ok⟩
    rw [hs] at h hle hsuf
    simp only at h hle hsuf
    split at h
    · simp at h
    · rename_i hok
      replace hok : ok = true := by simpa using hok
      subst hok
      have hpre := skip_pre hs
      rw [hlen] at hpre
      have hs1 : s1 = s.drop (p + (s.length - p - s1.length)) := by
        have := suffix_drop hsuf
        rw [List.drop_drop, hlen] at this
        exact this
      split at h
      · rename_i hnil
        simp at h
        subst h
        rw [hnil] at hpre
        simp only [List.length_nil, Nat.sub_zero] at hpre
        refine ⟨by simp, by simp [hnil]; omega, ?_, .inl ⟨rfl, rfl, by simp [hnil]; omega⟩⟩
        simp only [hnil, List.length_nil, Nat.sub_zero]
        rw [show p + (s.length - p) - p = s.length - p by omega]
        exact hpre
      · split at h
        · simp at h
        · rename_i k w n rest ht
          have hlt := take_lt s1 k w n rest ht
          have hrs := take_suffix s1 k w n rest ht
          split at h
          · simp at h
          · split at h
            · simp at h
            · rename_i l' hl'
              simp at h
              subst h
              have e1 : p + (s.length - p - s1.length) + (s1.length - rest.length) = s.length - rest.length := by omega
              have hrest : rest = s.drop (s.length - rest.length) := by
                have h2 := suffix_drop hrs
                rw [hs1, List.drop_drop] at h2
                have : p + (s.length - p - s1.length) + ((s.drop (p + (s.length - p - s1.length))).length - rest.length) = s.length - rest.length := by
                  rw [List.length_drop]; omega
                rw [this] at h2
                exact h2
              rw [hlen] at hl'
              rw [e1] at hl'
              refine ⟨by simp, by simp only; omega, ?_, .inr ⟨s.length - rest.length, by simp only; omega, by omega, ?_, ?_⟩⟩
              · simp only
                rw [show p + (s.length - p - s1.length) - p = s.length - p - s1.length by omega]
                exact hpre
              · simp only
                rw [← hs1, ← hrest]
                exact ht
              · rw [hrest] at hl'
                have e2 : s.length - (s.drop (s.length - rest.length)).length = s.length - rest.length := by rw [List.length_drop]; omega
                rw [e2] at hl'
                exact ih _ l' (by omega) (by omega) hl'

/-- A comment without an end: what is left begins with its slash. -/
theorem skipM_bad (s : List UInt8) : ∀ m, (∀ st, (m = .a st ∨ m = .c st) → st ≠ []) → ∀ s1, skipM m s = (s1, false) → s1 ≠ [] ∨ ∃ st, (m = .a st ∨ m = .c st) ∧ st = [] := by
  induction s with
  | nil =>
    intro m hm s1 h
    cases m with
    | c st => simp [skipM] at h; left; rw [← h]; exact hm st (.inr rfl)
    | _ => simp [skipM] at h
  | cons b r ih =>
    intro m hm s1 h
    cases m with
    | n =>
      simp only [skipM] at h
      split at h
      · exact .inl ((ih .n (by simp) s1 h).resolve_right (by simp))
      · split at h
        · exact .inl ((ih .l (by simp) s1 h).resolve_right (by simp))
        · split at h
          · exact .inl ((ih (.a (b :: r)) (by simp) s1 h).resolve_right (by simp))
          · simp at h
    | l =>
      simp only [skipM] at h
      split at h
      · exact .inl ((ih .n (by simp) s1 h).resolve_right (by simp))
      · exact .inl ((ih .l (by simp) s1 h).resolve_right (by simp))
    | a st =>
      simp only [skipM] at h
      have hst := hm st (.inl rfl)
      exact .inl ((ih (.c st) (by rintro st' (h' | h') <;> simp at h'; subst h'; exact hst) s1 h).resolve_right (by rintro ⟨st', h', e⟩; simp at h'; subst h'; exact hst e))
    | c st =>
      simp only [skipM] at h
      have hst := hm st (.inr rfl)
      split at h
      · exact .inl ((ih .e (by simp) s1 h).resolve_right (by simp))
      · exact .inl ((ih (.c st) (by rintro st' (h' | h') <;> simp at h'; subst h'; exact hst) s1 h).resolve_right (by rintro ⟨st', h', e⟩; simp at h'; subst h'; exact hst e))
    | e =>
      simp only [skipM] at h
      exact .inl ((ih .n (by simp) s1 h).resolve_right (by simp))

/-- An error's place lies in the text. -/
theorem lexF_err (f : Nat) : ∀ p s q n, s.length < f → lexF f p s = .error (q, n) → q < p + s.length ∧ (n = 10 ∨ n = 3) := by
  induction f with
  | zero => intro p s q n hf; omega
  | succ f ih =>
    intro p s q n hf h
    have hle := skip_le s
    unfold lexF at h
    rcases hs : skip s with ⟨s1, ok⟩
    rw [hs] at h hle
    simp only at h hle
    split at h
    · rename_i hok
      subst hok
      simp at h
      have : s1 ≠ [] := by
        intro e
        subst e
        rcases skipM_bad s .n (by simp) [] hs with h | ⟨st, h⟩
        · exact h rfl
        · simp at h
      have hp : 0 < s1.length := List.length_pos_iff.2 this
      exact ⟨by omega, .inl h.2.symm⟩
    · split at h
      · simp at h
      · rename_i hne
        have hp : 0 < s1.length := List.length_pos_iff.2 hne
        split at h
        · rename_i e ht
          simp at h
          have e10 : e = 10 := by
            cases s1 with
            | nil => exact absurd rfl hne
            | cons b r =>
              simp only [take] at ht
              repeat' split at ht
              all_goals first | (simp at ht; done) | (simp at ht; exact ht.symm)
          exact ⟨by omega, .inl (by omega)⟩
        · rename_i k w m rest ht
          have hlt := take_lt s1 k w m rest ht
          split at h
          · simp at h
            exact ⟨by omega, .inr h.2.symm⟩
          · split at h
            · rename_i er her
              simp at h
              subst h
              have := ih _ _ _ _ (by omega) her
              exact ⟨by omega, this.2⟩
            · simp at h
end Go.Proofs.YthnjdfblappkfaaDoor.Lx
