/-
  What each rule's function tells is the document's token, in the plain form.
-/
import Derived.Test.YthnjdfblappkfaaDoorRules
import Derived.Test.YthnjdfblappkfaaDoorPlexsymbol
import Derived.Test.YthnjdfblappkfaaDoorLx2
namespace Go.Proofs.YthnjdfblappkfaaDoor
open Go.RowKit Go.Proofs.YthnjdfblappkfaaDoorW.PrintWords

def TakeRel (l : List UInt8) (k : Int) (t : ByteArray) (m len e1 : Int) : Prop :=
  (e1 = 0 ∧ ∃ (kn ln : Nat), k = kn ∧ len = ln ∧ ln ≤ l.length ∧ Lx.take l = .ok (kn, bl t, m, l.drop ln)) ∨ (e1 = 10 ∧ Lx.take l = .error 10)

def RPost (l : List UInt8) (w : World) (e : Ending) (w' : World) : Prop :=
  ∃ k t m len e1, TPost k t m len e1 w e w' ∧ TakeRel l k t m len e1

theorem head_take {α : Type} (p : α → Bool) (l : List α) : (l.takeWhile p).length ≤ l.length := by
  have := Lx.dropWhile_len p l
  omega

theorem call_of (k : Nat) (str : ByteArray) (W : World) (ps pk : Addr) (hs : str.size ≤ 8192)
    (h1 : W.cell? ps = some (.string setLetter)) (h2 : W.cell? pk = some (.int .u8 k))
    (ht : Lx.take (bl str) = .ok (k, (bl str).takeWhile Lx.letterB, 0, (bl str).dropWhile Lx.letterB)) :
    Calls Tryd.prog 113 #[.string str, .pointer (some ps), .pointer (some pk)] W (RPost (bl str) W) := by
  refine (of_walk str setLetter k ps pk W ascii_letter (by omega) h1 h2).mono ?_
  intro e w' h
  refine ⟨_, _, _, _, _, h, .inl ⟨rfl, k, headLen setLetter str, rfl, rfl, ?_, ?_⟩⟩
  · rw [headLen_letter]; exact head_take _ _
  · rw [ht, bl_extract, List.drop_zero, headLen_letter, take_takeWhile, drop_takeWhile]

theorem call_one (k : Nat) (str : ByteArray) (W : World) (pk : Addr) (c : UInt8) (r : List UInt8) (hl : bl str = c :: r)
    (h2 : W.cell? pk = some (.int .u8 k)) (ht : Lx.take (bl str) = .ok (k, [c], 0, r)) :
    Calls Tryd.prog 115 #[.string str, .pointer (some pk)] W (RPost (bl str) W) := by
  have hs : 1 ≤ str.size := by
    have := congrArg List.length hl
    rw [bl_length] at this
    simp at this
    omega
  refine (one_walk str k pk W hs h2).mono ?_
  intro e w' h
  refine ⟨_, _, _, _, _, h, .inl ⟨rfl, k, 1, rfl, rfl, ?_, ?_⟩⟩
  · rw [hl]; simp
  · rw [ht, bl_extract, hl]; simp

theorem bl_mk (l : List UInt8) : bl ⟨l.toArray⟩ = l := by simp [bl]

theorem call_quote (str : ByteArray) (W : World) (r : List UInt8) (hl : bl str = 39 :: r) (hs : str.size ≤ 8192) :
    Calls Tryd.prog 88 #[.string str] W (RPost (bl str) W) := by
  have ht : Lx.take (39 :: r) = (match Lx.quotedM [] r with | some (t, rest) => .ok (2, t, 0, rest) | none => .error 10) := by
    simp only [Lx.take]
    rw [if_neg (by decide), if_neg (by decide), if_neg (by decide), if_neg (by decide), if_neg (by decide), if_neg (by decide), if_pos trivial]
    cases Lx.quotedM [] r <;> rfl
  have hd : (bl str).drop 1 = r := by rw [hl]; rfl
  have hlen : r.length + 1 = str.size := by rw [← bl_length, hl]; simp
  cases hq : Lx.quotedM [] r with
  | none =>
    have hf : lex_quoted.f str = some (⟨#[]⟩, 0, 10) := by
      unfold lex_quoted.f
      rw [if_pos (by omega), hd, hq]
    refine (quote_walk str W _ _ _ hf).mono ?_
    intro e w' h
    refine ⟨2, ⟨#[]⟩, 0, 0, 10, h, Or.inr ⟨rfl, ?_⟩⟩
    rw [hl, ht, hq]
  | some x =>
    obtain ⟨t, rest⟩ := x
    have hf : lex_quoted.f str = some ((⟨t.toArray⟩ : ByteArray), ((str.size - rest.length : Nat) : Int), (0 : Int)) := by
      unfold lex_quoted.f
      rw [if_pos (by omega), hd, hq]
    refine (quote_walk str W _ _ _ hf).mono ?_
    intro e w' h
    have hsuf := Lx.quotedM_suffix r.length r [] t rest (Nat.le_refl _) hq
    have hsuf2 := hsuf.trans (List.suffix_cons 39 r)
    refine ⟨2, ⟨t.toArray⟩, 0, (str.size - rest.length : Nat), 0, h, Or.inl ⟨rfl, 2, str.size - rest.length, rfl, rfl, ?_, ?_⟩⟩
    · rw [bl_length]; omega
    · have e2 := Lx.suffix_drop hsuf2
      rw [hl, ht, hq, bl_mk]
      rw [List.length_cons, hlen] at e2
      simp only
      rw [← e2]

namespace Lx
theorem digitB_iff (c : UInt8) : digitB c = true ↔ 48 ≤ c.toNat ∧ c.toNat ≤ 57 := by
  unfold digitB
  simp only [List.contains_iff_mem, List.mem_cons, List.not_mem_nil, or_false, ← UInt8.toNat_inj]
  simp only [UInt8.reduceToNat]
  omega
def fold10 (n : Nat) (b : UInt8) : Nat := 10 * n + (b.toNat - 48)
theorem fold_ge : ∀ (l : List UInt8) (a : Nat), a ≤ l.foldl fold10 a
  | [], a => Nat.le_refl _
  | b :: l, a => by
    have := fold_ge l (fold10 a b)
    simp only [List.foldl_cons]
    unfold fold10 at this ⊢
    omega
theorem parseM (l : List UInt8) : ∀ acc : Nat, acc ≤ 18446744073709551615 →
    (match Lib.parseUintM 18446744073709551615 acc l with
      | .ok u => l.all digitB = true ∧ u = l.foldl fold10 acc ∧ u ≤ 18446744073709551615
      | _ => ¬ (l.all digitB = true ∧ l.foldl fold10 acc ≤ 18446744073709551615)) := by
  induction l with
  | nil => intro acc h; exact ⟨rfl, rfl, h⟩
  | cons c r ih =>
    intro acc h
    simp only [Lib.parseUintM]
    have hg := fold_ge r (fold10 acc c)
    have hf : (c :: r).foldl fold10 acc = r.foldl fold10 (fold10 acc c) := rfl
    rw [hf]
    have hx : fold10 acc c = acc * 10 + (c.toNat - 48) := by unfold fold10; omega
    by_cases hd : 48 ≤ c.toNat ∧ c.toNat ≤ 57
    · rw [if_pos hd]
      by_cases h1 : 1844674407370955162 ≤ acc
      · rw [if_pos h1]
        rintro ⟨_, h2⟩
        omega
      · rw [if_neg h1]
        by_cases h2 : 18446744073709551615 < acc * 10 + (c.toNat - 48)
        · rw [if_pos h2]
          rintro ⟨_, h3⟩
          omega
        · rw [if_neg h2, ← hx]
          have := ih (fold10 acc c) (by omega)
          have hc : digitB c = true := (digitB_iff c).2 hd
          simp only [List.all_cons, hc, Bool.true_and]
          exact this
    · rw [if_neg hd]
      rintro ⟨h1, _⟩
      simp only [List.all_cons, Bool.and_eq_true] at h1
      exact hd ((digitB_iff c).1 h1.1)
theorem value_fold (l : List UInt8) : value l = l.foldl fold10 0 := rfl
end Lx

theorem numOf_eq (c : UInt8) (r : List UInt8) (hd : Lx.digitB c = true) :
    numOf (c :: r) = if ((c :: r).takeWhile Lx.letterB).all Lx.digitB = true ∧ Lx.value ((c :: r).takeWhile Lx.letterB) < 9223372036854775808 then some (Lx.value ((c :: r).takeWhile Lx.letterB) : Int) else none := by
  unfold numOf
  have hl : Lx.letterB c = true := by unfold Lx.letterB; rw [hd]; simp
  have hw : (c :: r).takeWhile Lx.letterB = c :: r.takeWhile Lx.letterB := List.takeWhile_cons_of_pos hl
  rw [hw]
  generalize r.takeWhile Lx.letterB = w
  have h48 := (Lx.digitB_iff c).1 hd
  have hm := Lx.parseM (c :: w) 0 (by decide)
  have e : Lib.parseIntB 64 (c :: w) = match Lib.parseUintM 18446744073709551615 0 (c :: w) with
      | .range => .range
      | .ok u => if 9223372036854775808 ≤ u then .range else .ok (u : Int)
      | _ => Lib.parseIntB 64 [] := by
    unfold Lib.parseIntB
    simp only
    rw [if_neg (by omega)]
    have e2 : Lib.parseUintB 64 (c :: w) = Lib.parseUintM 18446744073709551615 0 (c :: w) := by
      unfold Lib.parseUintB
      rw [if_neg (by simp)]
    rw [e2]
    rcases Lib.parseUintM 18446744073709551615 0 (c :: w) with u | _ | _
    · have h45 : ¬ c.toNat = 45 := by omega
      simp only [h45, not_false_eq_true, true_and, false_and, if_false]
    · rfl
    · rfl
  rw [e]
  rw [Lx.value_fold]
  rcases hp : Lib.parseUintM 18446744073709551615 0 (c :: w) with u | _ | _
  · rw [hp] at hm
    simp only at hm ⊢
    obtain ⟨h1, rfl, h3⟩ := hm
    by_cases hb : 9223372036854775808 ≤ List.foldl Lx.fold10 0 (c :: w)
    · rw [if_pos hb, if_neg (fun h => by omega)]
    · rw [if_neg hb, if_pos ⟨h1, by omega⟩]
  · rw [hp] at hm
    simp only [Lib.parseIntB] at hm ⊢
    rw [if_neg (fun h => hm ⟨h.1, by omega⟩)]
  · rw [hp] at hm
    simp only at hm ⊢
    rw [if_neg (fun h => hm ⟨h.1, by omega⟩)]

theorem call_number (str : ByteArray) (W : World) (hL : LaidE W) (c : UInt8) (r : List UInt8) (hl : bl str = c :: r) (hd : Lx.digitB c = true) (hs : str.size ≤ 8192)
    (ht : Lx.take (c :: r) = if ((c :: r).takeWhile Lx.letterB).all Lx.digitB = true ∧ Lx.value ((c :: r).takeWhile Lx.letterB) < 9223372036854775808 then .ok (4, [], (Lx.value ((c :: r).takeWhile Lx.letterB) : Int), (c :: r).dropWhile Lx.letterB) else .error 10) :
    Calls Tryd.prog 85 #[.string str] W (RPost (bl str) W) := by
  refine (lex_number.walk str W hL (by omega)).mono ?_
  intro e w' ⟨h, hb⟩
  rw [hl, numOf_eq c r hd] at h
  by_cases hc : ((c :: r).takeWhile Lx.letterB).all Lx.digitB = true ∧ Lx.value ((c :: r).takeWhile Lx.letterB) < 9223372036854775808
  · rw [if_pos hc] at h ht
    refine ⟨4, ⟨#[]⟩, (Lx.value ((c :: r).takeWhile Lx.letterB) : Int), (((c :: r).takeWhile Lx.letterB).length : Nat), 0, ⟨h, hb⟩, Or.inl ⟨rfl, 4, _, rfl, rfl, ?_, ?_⟩⟩
    · rw [hl]; exact head_take _ _
    · rw [hl, ht, drop_takeWhile]
  · rw [if_neg hc] at h ht
    exact ⟨0, ⟨#[]⟩, 0, 0, 10, ⟨h, hb⟩, Or.inr ⟨rfl, by rw [hl, ht]⟩⟩
end Go.Proofs.YthnjdfblappkfaaDoor
