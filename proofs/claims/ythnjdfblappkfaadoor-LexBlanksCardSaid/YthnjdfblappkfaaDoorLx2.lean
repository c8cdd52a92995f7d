/-
  Plain Lean: what is left of a text behind blanks, behind a token, is an end of it; one step of the lexer.
-/
import Derived.Test.YthnjdfblappkfaaDoorLx
import Derived.Test.YthnjdfblappkfaaDoorBase
namespace Go.Proofs.YthnjdfblappkfaaDoor
open Go.RowKit
namespace Lx

theorem skipM_suffix (s : List UInt8) : ∀ m, (skipM m s).1 <:+ s ∨ ∃ st, (m = .a st ∨ m = .c st) ∧ (skipM m s).1 = st := by
  induction s with
  | nil => intro m; cases m <;> simp [skipM]
  | cons b r ih =>
    intro m
    have lift : ∀ x : List UInt8, x <:+ r → x <:+ b :: r := fun x h => h.trans (List.suffix_cons b r)
    cases m with
    | n =>
      simp only [skipM]
      split
      · rcases ih .n with h | ⟨st, h, _⟩
        · exact .inl (lift _ h)
        · simp at h
      · split
        · rcases ih .l with h | ⟨st, h, _⟩
          · exact .inl (lift _ h)
          · simp at h
        · split
          · rcases ih (.a (b :: r)) with h | ⟨st, h, e⟩
            · exact .inl (lift _ h)
            · simp at h; rw [e, ← h]; exact .inl (List.suffix_refl _)
          · exact .inl (List.suffix_refl _)
    | l =>
      simp only [skipM]
      split
      · rcases ih .n with h | ⟨st, h, _⟩
        · exact .inl (lift _ h)
        · simp at h
      · rcases ih .l with h | ⟨st, h, _⟩
        · exact .inl (lift _ h)
        · simp at h
    | a st =>
      simp only [skipM]
      rcases ih (.c st) with h | ⟨st', h, e⟩
      · exact .inl (lift _ h)
      · simp at h; exact .inr ⟨st, .inl rfl, e.trans h.symm⟩
    | c st =>
      simp only [skipM]
      split
      · rcases ih .e with h | ⟨st', h, _⟩
        · exact .inl (lift _ h)
        · simp at h
      · rcases ih (.c st) with h | ⟨st', h, e⟩
        · exact .inl (lift _ h)
        · simp at h; exact .inr ⟨st, .inr rfl, e.trans h.symm⟩
    | e =>
      simp only [skipM]
      rcases ih .n with h | ⟨st, h, _⟩
      · exact .inl (lift _ h)
      · simp at h
theorem skip_suffix (s : List UInt8) : (skip s).1 <:+ s := by
  rcases skipM_suffix s .n with h | ⟨st, h, _⟩
  · exact h
  · simp at h

theorem quotedM_suffix (n : Nat) : ∀ (s out t rest : List UInt8), s.length ≤ n → quotedM out s = some (t, rest) → rest <:+ s := by
  induction n with
  | zero =>
    intro s out t rest hn h
    cases s with
    | nil => simp [quotedM] at h
    | cons b r => simp at hn
  | succ n ih =>
    intro s out t rest hn h
    cases s with
    | nil => simp [quotedM] at h
    | cons b r =>
      simp at hn
      unfold quotedM at h
      split at h
      · split at h
        · simp at h; exact h.2 ▸ List.nil_suffix
        · rename_i c r'
          have hn' : r'.length + 1 ≤ n := by simpa using hn
          split at h
          · exact (ih r' _ _ _ (by omega) h).trans ((List.suffix_cons c r').trans (List.suffix_cons b _))
          · simp at h; rw [← h.2]; exact List.suffix_cons b _
      · split at h
        · split at h
          · simp at h
          · rename_i c r'
            have hn' : r'.length + 1 ≤ n := by simpa using hn
            repeat' split at h
            all_goals first | exact (ih r' _ _ _ (by omega) h).trans ((List.suffix_cons c r').trans (List.suffix_cons b _)) | simp at h
        · split at h
          · simp at h
          · exact (ih r _ _ _ hn h).trans (List.suffix_cons b r)

theorem take_suffix (s : List UInt8) (k : Nat) (t : List UInt8) (n : Int) (rest : List UInt8) (h : take s = .ok (k, t, n, rest)) : rest <:+ s := by
  cases s with
  | nil => simp [take] at h
  | cons b r =>
    simp only [take] at h
    repeat' split at h
    all_goals first
      | (simp only [Except.ok.injEq, Prod.mk.injEq] at h; rw [← h.2.2.2]; first | exact List.dropWhile_suffix _ | exact List.suffix_cons b r | (rename_i hq; exact (quotedM_suffix _ _ _ _ _ (Nat.le_refl _) hq).trans (List.suffix_cons b r)))
      | cases h

theorem suffix_drop {x l : List UInt8} (h : x <:+ l) : x = l.drop (l.length - x.length) := List.suffix_iff_eq_drop.1 h
end Lx

/-- What is left to tell, from a place on, some tokens being told. -/
def Rest (q : Except (Nat × Nat) (List Lx.Tok)) (s : ByteArray) (p : Nat) (acc : List Lx.Tok) : Prop :=
  ∃ fuel, s.size - p < fuel ∧ (match Lx.lexF fuel p ((bl s).drop p) with | .error e => q = .error e | .ok l => q = .ok (acc ++ l))

theorem Rest.start (s : ByteArray) (h : ¬ 8192 < s.size) : Rest (Lx.lex (bl s)) s 0 [] := by
  refine ⟨s.size + 1, by omega, ?_⟩
  have e : Lx.lex (bl s) = Lx.lexF (s.size + 1) 0 ((bl s).drop 0) := by unfold Lx.lex; rw [if_neg (by rw [bl_length]; exact h)]; rfl
  rw [e]
  split <;> simp_all

/-- One step. -/
theorem Rest.step {q : Except (Nat × Nat) (List Lx.Tok)} {s : ByteArray} {p : Nat} {acc : List Lx.Tok} (h : Rest q s p acc) (hp : p ≤ s.size) :
    ∃ (p1 : Nat) (ok : Bool), p ≤ p1 ∧ p1 ≤ s.size ∧ Lx.skip ((bl s).drop p) = ((bl s).drop p1, ok) ∧
      (ok = false → q = .error (p1, 10)) ∧
      (ok = true → p1 = s.size → q = .ok (acc ++ [⟨7, [], 0, p1, false⟩])) ∧
      (ok = true → p1 < s.size → match Lx.take ((bl s).drop p1) with
        | .error e => q = .error (p1, e)
        | .ok (k, t, n, rest) => ∃ p2, p1 < p2 ∧ p2 ≤ s.size ∧ rest = (bl s).drop p2 ∧ (32 < t.length → q = .error (p1, 3)) ∧ (¬ 32 < t.length → Rest q s p2 (acc ++ [⟨k, t, n, p1, rest.head? == some 40⟩]))) := by
  obtain ⟨fuel, hf, h⟩ := h
  obtain ⟨fuel, rfl⟩ : ∃ m, fuel = m + 1 := ⟨fuel - 1, by omega⟩
  have hl : ((bl s).drop p).length = s.size - p := by rw [List.length_drop, bl_length]
  have hsuf := Lx.skip_suffix ((bl s).drop p)
  have hle := Lx.skip_le ((bl s).drop p)
  rcases hsk : Lx.skip ((bl s).drop p) with ⟨s1, ok⟩
  rw [hsk] at hsuf hle
  simp only at hsuf hle
  have hs1 : s1 = (bl s).drop (s.size - s1.length) := by
    have := Lx.suffix_drop hsuf
    rw [List.drop_drop, hl] at this
    rw [show s.size - s1.length = p + (s.size - p - s1.length) by omega]
    exact this
  refine ⟨s.size - s1.length, ok, by omega, by omega, by rw [← hs1], ?_, ?_, ?_⟩
  · intro ho
    simp only [Lx.lexF, hsk, ho, if_true, hl] at h
    rw [h]
    congr 2
    omega
  · intro ho hz
    have hz1 : s1 = [] := List.eq_nil_of_length_eq_zero (by omega)
    simp only [Lx.lexF, hsk, ho, hz1, hl] at h
    simp only [Bool.true_eq_false, if_false, if_true, List.length_nil] at h
    rw [h]
    have e : p + (s.size - p - 0) = s.size - s1.length := by rw [hz1]; simp; omega
    rw [e]
  · intro ho hlt
    have hz1 : s1 ≠ [] := by intro e; rw [e] at hlt; simp at hlt
    have hpe : p + (s.size - p - s1.length) = s.size - s1.length := by omega
    simp only [Lx.lexF, hsk, ho, hl, hpe] at h
    simp only [Bool.true_eq_false, if_false, if_neg hz1] at h
    rw [← hs1]
    cases ht : Lx.take s1 with
    | error e =>
      rw [ht] at h
      exact h
    | ok x =>
      obtain ⟨k, t, n, rest⟩ := x
      rw [ht] at h
      simp only at h ⊢
      have hlt2 := Lx.take_lt _ _ _ _ _ ht
      have hsuf2 := (Lx.take_suffix _ _ _ _ _ ht).trans hsuf
      have hr : rest = (bl s).drop (s.size - rest.length) := by
        have := Lx.suffix_drop hsuf2
        rw [List.drop_drop, hl] at this
        rw [show s.size - rest.length = p + (s.size - p - rest.length) by omega]
        exact this
      refine ⟨s.size - rest.length, by omega, by omega, hr, ?_, ?_⟩
      · intro h32
        rw [if_pos h32] at h
        exact h
      · intro h32
        rw [if_neg h32] at h
        refine ⟨fuel, by omega, ?_⟩
        rw [← hr]
        rw [show s.size - s1.length + (s1.length - rest.length) = s.size - rest.length by omega] at h
        cases hx : Lx.lexF fuel (s.size - rest.length) rest with
        | error e => rw [hx] at h; exact h
        | ok l => rw [hx] at h; simp only at h ⊢; rw [h]; simp
end Go.Proofs.YthnjdfblappkfaaDoor
