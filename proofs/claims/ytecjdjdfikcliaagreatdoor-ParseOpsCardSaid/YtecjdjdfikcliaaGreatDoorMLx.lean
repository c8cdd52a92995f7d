/- Several small texts of this claim in one. -/
import Derived.Test.YtecjdjdfikcliaaGreatDoorBase
section
/-
  Plain Lean, no program in sight: what the lexer computes, on lists of bytes.
-/
namespace Go.Proofs.YtecjdjdfikcliaaGreatDoor.Lx

def blankB (b : UInt8) : Bool := [32, 9, 13, 10].contains b
def symbolB (b : UInt8) : Bool := [43, 45, 42, 47, 92, 94, 60, 62, 61, 126, 58, 46, 63, 64, 35, 38, 36].contains b
def digitB (b : UInt8) : Bool := [48, 49, 50, 51, 52, 53, 54, 55, 56, 57].contains b
def lowerB (b : UInt8) : Bool := [97, 98, 99, 100, 101, 102, 103, 104, 105, 106, 107, 108, 109, 110, 111, 112, 113, 114, 115, 116, 117, 118, 119, 120, 121, 122].contains b
def upperB (b : UInt8) : Bool := [65, 66, 67, 68, 69, 70, 71, 72, 73, 74, 75, 76, 77, 78, 79, 80, 81, 82, 83, 84, 85, 86, 87, 88, 89, 90, 95].contains b
def signB (b : UInt8) : Bool := [40, 41, 91, 93, 44, 124].contains b
def bangB (b : UInt8) : Bool := [33, 59].contains b
def letterB (b : UInt8) : Bool := lowerB b || upperB b || digitB b

/-- Where the skipping of blanks and comments stands: between; in a line's comment; behind the slash of a comment that began where 'st' begins; in that comment; behind its last star. -/
inductive Mode where
  | n | l | a (st : List UInt8) | c (st : List UInt8) | e

/-- What is left behind blanks and comments; false: a comment has no end, and the text from its begin on. -/
def skipM : Mode → List UInt8 → List UInt8 × Bool
  | .c st, [] => (st, false)
  | _, [] => ([], true)
  | .n, b :: r => if blankB b then skipM .n r else if b = 37 then skipM .l r else if b = 47 ∧ r.head? = some 42 then skipM (.a (b :: r)) r else (b :: r, true)
  | .l, b :: r => if b = 10 then skipM .n r else skipM .l r
  | .a st, _ :: r => skipM (.c st) r
  | .c st, b :: r => if b = 42 ∧ r.head? = some 47 then skipM .e r else skipM (.c st) r
  | .e, _ :: r => skipM .n r

def skip (s : List UInt8) : List UInt8 × Bool := skipM .n s

/-- What is quoted, behind the first quote: the text, and what is left behind the last quote. -/
def quotedM : List UInt8 → List UInt8 → Option (List UInt8 × List UInt8)
  | _, [] => none
  | out, b :: r =>
    if b = 39 then
      match r with
      | [] => some (out, [])
      | c :: r' => if c = 39 then quotedM (out ++ [39]) r' else some (out, c :: r')
    else if b = 92 then
      match r with
      | [] => none
      | c :: r' => if c = 92 then quotedM (out ++ [92]) r' else if c = 39 then quotedM (out ++ [39]) r' else if c = 110 then quotedM (out ++ [10]) r' else if c = 116 then quotedM (out ++ [9]) r' else none
    else if b < 32 ∨ 126 < b then none
    else quotedM (out ++ [b]) r

structure Tok where
  kind : Nat
  text : List UInt8
  n : Int
  pos : Nat
  opn : Bool
  deriving DecidableEq, Repr

def value (l : List UInt8) : Nat := l.foldl (fun n b => 10 * n + (b.toNat - 48)) 0

/-- A token at a text's begin, and what is left behind it; else an error's number. -/
def take : List UInt8 → Except Nat (Nat × List UInt8 × Int × List UInt8)
  | [] => .error 10
  | b :: r =>
    let s := b :: r
    if lowerB b then .ok (1, s.takeWhile letterB, 0, s.dropWhile letterB)
    else if upperB b then .ok (3, s.takeWhile letterB, 0, s.dropWhile letterB)
    else if digitB b then
      let w := s.takeWhile letterB
      if w.all digitB ∧ value w < 9223372036854775808 then .ok (4, [], value w, s.dropWhile letterB) else .error 10
    else if signB b then .ok (5, [b], 0, r)
    else if bangB b then .ok (1, [b], 0, r)
    else if symbolB b then
      let w := s.takeWhile symbolB
      let rest := s.dropWhile symbolB
      if w = [46] ∧ (rest.head?.all fun c => blankB c || c == 37) then .ok (6, [], 0, rest) else .ok (1, w, 0, rest)
    else if b = 39 then
      match quotedM [] r with
      | some (t, rest) => .ok (2, t, 0, rest)
      | none => .error 10
    else .error 10

/-- The tokens of a text that begins at a place; or an error's place and number. -/
def lexF : Nat → Nat → List UInt8 → Except (Nat × Nat) (List Tok)
  | 0, p, _ => .error (p, 10)
  | fuel + 1, p, s =>
    let (s1, ok) := skip s
    let p1 := p + (s.length - s1.length)
    if ok = false then .error (p1, 10)
    else if s1 = [] then .ok [⟨7, [], 0, p1, false⟩]
    else match take s1 with
      | .error e => .error (p1, e)
      | .ok (k, t, n, rest) =>
        if 32 < t.length then .error (p1, 3)
        else match lexF fuel (p1 + (s1.length - rest.length)) rest with
          | .error e => .error e
          | .ok l => .ok (⟨k, t, n, p1, rest.head? == some 40⟩ :: l)

def lex (s : List UInt8) : Except (Nat × Nat) (List Tok) := if 8192 < s.length then .error (0, 3) else lexF (s.length + 1) 0 s

/-! ### Lengths -/
theorem skipM_le (s : List UInt8) : ∀ m, (∀ st, m = .a st ∨ m = .c st → s.length < st.length) → (skipM m s).1.length ≤ s.length ∨ ∃ st, (m = .a st ∨ m = .c st) ∧ (skipM m s).1 = st ∧ (skipM m s).2 = false := by
  induction s with
  | nil => intro m hm; cases m <;> simp [skipM]
  | cons b r ih =>
    intro m hm
    cases m with
    | n =>
      simp only [skipM]
      split
      · have := ih .n (by simp); simp at this; left; simp; omega
      · split
        · have := ih .l (by simp); simp at this; left; simp; omega
        · split
          · rcases ih (.a (b :: r)) (by simp) with h | ⟨st, h1, h2, _⟩
            · left; simp; omega
            · left; simp at h1; rw [h2, ← h1]; exact Nat.le_refl _
          · left; exact Nat.le_refl _
    | l =>
      simp only [skipM]
      split
      · have := ih .n (by simp); simp at this; left; simp; omega
      · have := ih .l (by simp); simp at this; left; simp; omega
    | a st =>
      have := hm st (.inl rfl)
      simp only [skipM]
      rcases ih (.c st) (by simp at this ⊢; omega) with h | ⟨st', h1, h2, h3⟩
      · left; simp; omega
      · right; simp at h1; exact ⟨st, .inl rfl, h2.trans h1.symm, h3⟩
    | c st =>
      have := hm st (.inr rfl)
      simp only [skipM]
      split
      · have := ih .e (by simp); simp at this; left; simp; omega
      · rcases ih (.c st) (by simp at this ⊢; omega) with h | ⟨st', h1, h2, h3⟩
        · left; simp; omega
        · right; simp at h1; exact ⟨st, .inr rfl, h2.trans h1.symm, h3⟩
    | e =>
      simp only [skipM]
      have := ih .n (by simp); simp at this; left; simp; omega
theorem skip_le (s : List UInt8) : (skip s).1.length ≤ s.length := by
  rcases skipM_le s .n (by simp) with h | ⟨st, h, _⟩
  · exact h
  · simp at h

theorem quotedM_lt (n : Nat) : ∀ (s out t rest : List UInt8), s.length ≤ n → quotedM out s = some (t, rest) → rest.length < s.length := by
  induction n with
  | zero =>
    intro s out t rest hn h
    cases s with
    | nil => simp [quotedM] at h
    | cons b r => simp at hn
  | succ n ih =>
    intro s out t rest hn h
    cases s with
    | nil => simp [quotedM] at h
    | cons b r =>
      simp at hn
      unfold quotedM at h
      split at h
      · split at h
        · simp at h; rw [← h.2]; simp
        · rename_i c r'
          have hn' : r'.length + 1 ≤ n := by simpa using hn
          split at h
          · have := ih r' _ _ _ (by omega) h; simp; omega
          · simp at h; rw [← h.2]; simp
      · split at h
        · split at h
          · simp at h
          · rename_i c r'
            have hn' : r'.length + 1 ≤ n := by simpa using hn
            repeat' split at h
            all_goals first | (have := ih r' _ _ _ (by omega) h; simp; omega) | simp at h
        · split at h
          · simp at h
          · have := ih r _ _ _ hn h; simp; omega

theorem dropWhile_len {α : Type} (p : α → Bool) (l : List α) : (l.takeWhile p).length + (l.dropWhile p).length = l.length := by
  have := congrArg List.length (List.takeWhile_append_dropWhile (p := p) (l := l))
  rw [List.length_append] at this
  exact this

theorem dropWhile_lt {α : Type} (p : α → Bool) (b : α) (r : List α) (h : p b = true) : ((b :: r).dropWhile p).length < (b :: r).length := by
  have := dropWhile_len p (b :: r)
  simp [h] at this ⊢
  omega

theorem take_lt (s : List UInt8) (k : Nat) (t : List UInt8) (n : Int) (rest : List UInt8) (h : take s = .ok (k, t, n, rest)) : rest.length < s.length := by
  cases s with
  | nil => simp [take] at h
  | cons b r =>
    simp only [take] at h
    split at h
    · rename_i hb
      simp at h; rw [← h.2.2.2]; exact dropWhile_lt letterB b r (by simp [letterB, hb])
    · split at h
      · rename_i hb
        simp at h; rw [← h.2.2.2]; exact dropWhile_lt letterB b r (by simp [letterB, hb])
      · split at h
        · rename_i hb
          split at h
          · simp at h; rw [← h.2.2.2]; exact dropWhile_lt letterB b r (by simp [letterB, hb])
          · simp at h
        · split at h
          · simp at h; rw [← h.2.2.2]; simp
          · split at h
            · simp at h; rw [← h.2.2.2]; simp
            · split at h
              · rename_i hb
                split at h
                · simp at h; rw [← h.2.2.2]; exact dropWhile_lt symbolB b r hb
                · simp at h; rw [← h.2.2.2]; exact dropWhile_lt symbolB b r hb
              · split at h
                · split at h
                  · rename_i hq
                    simp at h
                    have := quotedM_lt r.length r [] _ _ (Nat.le_refl _) hq
                    rw [← h.2.2.2]; simp; omega
                  · simp at h
                · simp at h
end Go.Proofs.YtecjdjdfikcliaaGreatDoor.Lx
end
section
/-
  Plain Lean: what is left of a text behind blanks, behind a token, is an end of it; one step of the lexer.
-/
namespace Go.Proofs.YtecjdjdfikcliaaGreatDoor
open Go.RowKit
namespace Lx

theorem skipM_suffix (s : List UInt8) : ∀ m, (skipM m s).1 <:+ s ∨ ∃ st, (m = .a st ∨ m = .c st) ∧ (skipM m s).1 = st := by
  induction s with
  | nil => intro m; cases m <;> simp [skipM]
  | cons b r ih =>
    intro m
    have lift : ∀ x : List UInt8, x <:+ r → x <:+ b :: r := fun x h => h.trans (List.suffix_cons b r)
    cases m with
    | n =>
      simp only [skipM]
      split
      · rcases ih .n with h | ⟨st, h, _⟩
        · exact .inl (lift _ h)
        · simp at h
      · split
        · rcases ih .l with h | ⟨st, h, _⟩
          · exact .inl (lift _ h)
          · simp at h
        · split
          · rcases ih (.a (b :: r)) with h | ⟨st, h, e⟩
            · exact .inl (lift _ h)
            · simp at h; rw [e, ← h]; exact .inl (List.suffix_refl _)
          · exact .inl (List.suffix_refl _)
    | l =>
      simp only [skipM]
      split
      · rcases ih .n with h | ⟨st, h, _⟩
        · exact .inl (lift _ h)
        · simp at h
      · rcases ih .l with h | ⟨st, h, _⟩
        · exact .inl (lift _ h)
        · simp at h
    | a st =>
      simp only [skipM]
      rcases ih (.c st) with h | ⟨st', h, e⟩
      · exact .inl (lift _ h)
      · simp at h; exact .inr ⟨st, .inl rfl, e.trans h.symm⟩
    | c st =>
      simp only [skipM]
      split
      · rcases ih .e with h | ⟨st', h, _⟩
        · exact .inl (lift _ h)
        · simp at h
      · rcases ih (.c st) with h | ⟨st', h, e⟩
        · exact .inl (lift _ h)
        · simp at h; exact .inr ⟨st, .inr rfl, e.trans h.symm⟩
    | e =>
      simp only [skipM]
      rcases ih .n with h | ⟨st, h, _⟩
      · exact .inl (lift _ h)
      · simp at h
theorem skip_suffix (s : List UInt8) : (skip s).1 <:+ s := by
  rcases skipM_suffix s .n with h | ⟨st, h, _⟩
  · exact h
  · simp at h

theorem quotedM_suffix (n : Nat) : ∀ (s out t rest : List UInt8), s.length ≤ n → quotedM out s = some (t, rest) → rest <:+ s := by
  induction n with
  | zero =>
    intro s out t rest hn h
    cases s with
    | nil => simp [quotedM] at h
    | cons b r => simp at hn
  | succ n ih =>
    intro s out t rest hn h
    cases s with
    | nil => simp [quotedM] at h
    | cons b r =>
      simp at hn
      unfold quotedM at h
      split at h
      · split at h
        · simp at h; exact h.2 ▸ List.nil_suffix
        · rename_i c r'
          have hn' : r'.length + 1 ≤ n := by simpa using hn
          split at h
          · exact (ih r' _ _ _ (by omega) h).trans ((List.suffix_cons c r').trans (List.suffix_cons b _))
          · simp at h; rw [← h.2]; exact List.suffix_cons b _
      · split at h
        · split at h
          · simp at h
          · rename_i c r'
            have hn' : r'.length + 1 ≤ n := by simpa using hn
            repeat' split at h
            all_goals first | exact (ih r' _ _ _ (by omega) h).trans ((List.suffix_cons c r').trans (List.suffix_cons b _)) | simp at h
        · split at h
          · simp at h
          · exact (ih r _ _ _ hn h).trans (List.suffix_cons b r)

theorem take_suffix (s : List UInt8) (k : Nat) (t : List UInt8) (n : Int) (rest : List UInt8) (h : take s = .ok (k, t, n, rest)) : rest <:+ s := by
  cases s with
  | nil => simp [take] at h
  | cons b r =>
    simp only [take] at h
    repeat' split at h
    all_goals first
      | (simp only [Except.ok.injEq, Prod.mk.injEq] at h; rw [← h.2.2.2]; first | exact List.dropWhile_suffix _ | exact List.suffix_cons b r | (rename_i hq; exact (quotedM_suffix _ _ _ _ _ (Nat.le_refl _) hq).trans (List.suffix_cons b r)))
      | cases h

theorem suffix_drop {x l : List UInt8} (h : x <:+ l) : x = l.drop (l.length - x.length) := List.suffix_iff_eq_drop.1 h
end Lx

/-- What is left to tell, from a place on, some tokens being told. -/
def Rest (q : Except (Nat × Nat) (List Lx.Tok)) (s : ByteArray) (p : Nat) (acc : List Lx.Tok) : Prop :=
  ∃ fuel, s.size - p < fuel ∧ (match Lx.lexF fuel p ((bl s).drop p) with | .error e => q = .error e | .ok l => q = .ok (acc ++ l))

theorem Rest.start (s : ByteArray) (h : ¬ 8192 < s.size) : Rest (Lx.lex (bl s)) s 0 [] := by
  refine ⟨s.size + 1, by omega, ?_⟩
  have e : Lx.lex (bl s) = Lx.lexF (s.size + 1) 0 ((bl s).drop 0) := by unfold Lx.lex; rw [if_neg (by rw [bl_length]; exact h)]; rfl
  rw [e]
  split <;> simp_all

/-- One step. -/
theorem Rest.step {q : Except (Nat × Nat) (List Lx.Tok)} {s : ByteArray} {p : Nat} {acc : List Lx.Tok} (h : Rest q s p acc) (hp : p ≤ s.size) :
    ∃ (p1 : Nat) (ok : Bool), p ≤ p1 ∧ p1 ≤ s.size ∧ Lx.skip ((bl s).drop p) = ((bl s).drop p1, ok) ∧
      (ok = false → q = .error (p1, 10)) ∧
      (ok = true → p1 = s.size → q = .ok (acc ++ [⟨7, [], 0, p1, false⟩])) ∧
      (ok = true → p1 < s.size → match Lx.take ((bl s).drop p1) with
        | .error e => q = .error (p1, e)
        | .ok (k, t, n, rest) => ∃ p2, p1 < p2 ∧ p2 ≤ s.size ∧ rest = (bl s).drop p2 ∧ (32 < t.length → q = .error (p1, 3)) ∧ (¬ 32 < t.length → Rest q s p2 (acc ++ [⟨k, t, n, p1, rest.head? == some 40⟩]))) := by
  obtain ⟨fuel, hf, h⟩ := h
  obtain ⟨fuel, rfl⟩ : ∃ m, fuel = m + 1 := ⟨fuel - 1, by omega⟩
  have hl : ((bl s).drop p).length = s.size - p := by rw [List.length_drop, bl_length]
  have hsuf := Lx.skip_suffix ((bl s).drop p)
  have hle := Lx.skip_le ((bl s).drop p)
  rcases hsk : Lx.skip ((bl s).drop p) with ⟨s1, ok⟩
  rw [hsk] at hsuf hle
  simp only at hsuf hle
  have hs1 : s1 = (bl s).drop (s.size - s1.length) := by
    have := Lx.suffix_drop hsuf
    rw [List.drop_drop, hl] at this
    rw [show s.size - s1.length = p + (s.size - p - s1.length) by omega]
    exact this
  refine ⟨s.size - s1.length, ok, by omega, by omega, by rw [← hs1], ?_, ?_, ?_⟩
  · intro ho
    simp only [Lx.lexF, hsk, ho, if_true, hl] at h
    rw [h]
    congr 2
    omega
  · intro ho hz
    have hz1 : s1 = [] := List.eq_nil_of_length_eq_zero (by omega)
    simp only [Lx.lexF, hsk, ho, hz1, hl] at h
    simp only [Bool.true_eq_false, if_false, if_true, List.length_nil] at h
    rw [h]
    have e : p + (s.size - p - 0) = s.size - s1.length := by rw [hz1]; simp; omega
    rw [e]
  · intro ho hlt
    have hz1 : s1 ≠ [] := by intro e; rw [e] at hlt; simp at hlt
    have hpe : p + (s.size - p - s1.length) = s.size - s1.length := by omega
    simp only [Lx.lexF, hsk, ho, hl, hpe] at h
    simp only [Bool.true_eq_false, if_false, if_neg hz1] at h
    rw [← hs1]
    cases ht : Lx.take s1 with
    | error e =>
      rw [ht] at h
      exact h
    | ok x =>
      obtain ⟨k, t, n, rest⟩ := x
      rw [ht] at h
      simp only at h ⊢
      have hlt2 := Lx.take_lt _ _ _ _ _ ht
      have hsuf2 := (Lx.take_suffix _ _ _ _ _ ht).trans hsuf
      have hr : rest = (bl s).drop (s.size - rest.length) := by
        have := Lx.suffix_drop hsuf2
        rw [List.drop_drop, hl] at this
        rw [show s.size - rest.length = p + (s.size - p - rest.length) by omega]
        exact this
      refine ⟨s.size - rest.length, by omega, by omega, hr, ?_, ?_⟩
      · intro h32
        rw [if_pos h32] at h
        exact h
      · intro h32
        rw [if_neg h32] at h
        refine ⟨fuel, by omega, ?_⟩
        rw [← hr]
        rw [show s.size - s1.length + (s1.length - rest.length) = s.size - rest.length by omega] at h
        cases hx : Lx.lexF fuel (s.size - rest.length) rest with
        | error e => rw [hx] at h; exact h
        | ok l => rw [hx] at h; simp only at h ⊢; rw [h]; simp
end Go.Proofs.YtecjdjdfikcliaaGreatDoor
end
