/-
  lex.cutLeft: the text behind the longest head all of whose bytes are in a set of ASCII bytes.
-/
import Derived.Test.YthnjdfblappkfaaDoorProg
import Derived.Test.YthnjdfblappkfaaDoorBase
namespace Go.Proofs.YthnjdfblappkfaaDoor
open Go.RowKit

def ascii (a : ByteArray) : Bool := a.data.toList.all (fun b => b.toNat < 128)
def inSet (set : ByteArray) (b : UInt8) : Bool := set.data.toList.contains b
def headLen (set s : ByteArray) : Nat := (s.data.toList.takeWhile (inSet set)).length

def hasRune (set : ByteArray) (c j : Nat) : Bool := (set.data.toList.take j).any (fun b => b.toNat == c)

theorem hasRune_zero (set : ByteArray) (c : Nat) : hasRune set c 0 = false := by simp [hasRune]
theorem hasRune_succ (set : ByteArray) (c j : Nat) (h : j < set.size) : hasRune set c (j + 1) = (hasRune set c j || ((set[j]'h).toNat == c)) := by
  unfold hasRune
  rw [List.take_succ_eq_append_getElem (by simpa using h), List.any_append]
  simp
  rfl
theorem hasRune_all (set : ByteArray) (c : Nat) : hasRune set c set.size = set.data.toList.any (fun b => b.toNat == c) := by
  unfold hasRune
  rw [List.take_of_length_le (Nat.le_of_eq (bl_length set))]
theorem inSet_lo (set : ByteArray) (b : UInt8) : inSet set b = hasRune set b.toNat set.size := by
  rw [hasRune_all]
  unfold inSet
  rw [Bool.eq_iff_iff]
  simp only [List.contains_iff_mem, List.any_eq_true, beq_iff_eq]
  constructor
  · intro h; exact ⟨b, h, rfl⟩
  · rintro ⟨x, hx, he⟩
    have : x = b := UInt8.toNat_inj.mp he
    exact this ▸ hx
theorem hasRune_hi (set : ByteArray) (c : Nat) (ha : ascii set = true) (hc : 128 ≤ c) : hasRune set c set.size = false := by
  rw [hasRune_all, List.any_eq_false]
  intro x hx
  unfold ascii at ha
  rw [List.all_eq_true] at ha
  have := ha x hx
  simp at this ⊢
  omega
theorem inSet_hi (set : ByteArray) (b : UInt8) (ha : ascii set = true) (hb : 128 ≤ b.toNat) : inSet set b = false := by
  rw [inSet_lo]; exact hasRune_hi set _ ha hb
/-- One rune of the text: it is in the set just where its first byte is; then it is one byte long. -/
theorem rune_in (set s : ByteArray) (pos : Nat) (h : pos < s.size) (ha : ascii set = true) :
    hasRune set (Utf8.decode s pos).1 set.size = inSet set (s[pos]'h) ∧ (inSet set (s[pos]'h) = true → (Utf8.decode s pos).2 = 1) := by
  by_cases hb : (s[pos]'h).toNat < 128
  · rw [decode_ascii s pos h hb]
    exact ⟨(inSet_lo _ _).symm, fun _ => rfl⟩
  · have hd := decode_high s pos h (by omega)
    rw [hasRune_hi set _ ha hd.1, inSet_hi set _ ha (by omega)]
    exact ⟨rfl, fun h => by cases h⟩
theorem ascii_at (set : ByteArray) (ha : ascii set = true) (j : Nat) (h : j < set.size) : (set[j]'h).toNat < 128 := by
  unfold ascii at ha
  rw [List.all_eq_true] at ha
  have := ha (set.data.toList[j]'h) (List.getElem_mem _)
  exact of_decide_eq_true this
/-- All of the first k bytes are in the set, and the next one is not: the head is k bytes long. -/
def allIn (set s : ByteArray) (k : Nat) : Prop := ∀ j (h : j < s.size), j < k → inSet set s[j] = true
theorem takeWhile_len {α : Type} (p : α → Bool) : ∀ (l : List α) (k : Nat) (h : k < l.length), (∀ j (hj : j < l.length), j < k → p l[j] = true) → p l[k] = false → (l.takeWhile p).length = k
  | [], k, h, _, _ => by simp at h
  | x :: l, 0, _, _, hn => by simp at hn; simp [hn]
  | x :: l, k + 1, h, ha, hn => by
    have h0 := ha 0 (by simp) (by omega)
    simp at h0
    rw [List.takeWhile_cons, h0]
    simp only [List.length_cons, if_true]
    rw [takeWhile_len p l k (by simpa using h) (fun j hj hk => by have := ha (j + 1) (by simpa using hj) (by omega); simpa using this) (by simpa using hn)]
theorem takeWhile_all {α : Type} (p : α → Bool) : ∀ (l : List α), (∀ j (hj : j < l.length), p l[j] = true) → (l.takeWhile p) = l
  | [], _ => rfl
  | x :: l, ha => by
    have h0 := ha 0 (by simp)
    simp at h0
    rw [List.takeWhile_cons, h0]
    simp only [if_true]
    rw [takeWhile_all p l (fun j hj => by have := ha (j + 1) (by simpa using hj); simpa using this)]
theorem headLen_at (set s : ByteArray) (k : Nat) (h : k < s.size) (ha : allIn set s k) (hn : inSet set s[k] = false) : headLen set s = k :=
  takeWhile_len _ _ k h (fun j hj hk => ha j hj hk) hn
theorem headLen_all (set s : ByteArray) (ha : allIn set s s.size) : headLen set s = s.size := by
  unfold headLen
  rw [takeWhile_all _ _ (fun j hj => ha j hj hj)]
  rfl
theorem allIn_zero (set s : ByteArray) : allIn set s 0 := fun j _ h => absurd h (by omega)
theorem allIn_succ {set s : ByteArray} {k : Nat} (ha : allIn set s k) (h : k < s.size) (hi : inSet set s[k] = true) : allIn set s (k + 1) := by
  intro j hj hk
  rcases Nat.lt_or_ge j k with h1 | h1
  · exact ha j hj h1
  · obtain rfl : j = k := by omega
    exact hi
theorem extract_end (s : ByteArray) : s.extract s.size s.size = ⟨#[]⟩ := by
  apply bl_ext
  rw [bl_from]
  simp [bl]

theorem hasRune_yes {set : ByteArray} {c j : Nat} (hj : j < set.size) (h : hasRune set c j = true) : Value.bool true = Value.bool (hasRune set c (j + 1)) := by
  rw [hasRune_succ _ _ _ hj, h]; rfl
theorem hasRune_no {set : ByteArray} {c j : Nat} (hj : j < set.size) (h : ¬ hasRune set c j = true) : Value.bool ((c : Int) == ((set[j]'hj).toNat : Int)) = Value.bool (hasRune set c (j + 1)) := by
  rw [hasRune_succ _ _ _ hj]
  have h' : hasRune set c j = false := by simpa using h
  rw [h', Bool.false_or]
  congr 1
  rw [Bool.eq_iff_iff]
  simp only [beq_iff_eq]
  omega

def lex_cutLeft.f (a0 a1 : ByteArray) : Option ByteArray := if ascii a1 = true then some (a0.extract (headLen a1 a0) a0.size) else none

set_option maxHeartbeats 1000000 in
set_option maxRecDepth 100000 in
theorem lex_cutLeft.walk (s set : ByteArray) (w : World) (ha : ascii set = true) :
    Calls Tryd.prog 111 #[.string s, .string set] w fun e w' => e = .returned (.string (s.extract (headLen set s) s.size)) ∧ Below w.heap.size w w' := by
  have HA := Lib.hid ha
  clear ha
  go_enter Tryd.func111, Tryd.ntmps111
  go_wp2
  go_loopw [7] (fun _ wr => ∃ (pos : Nat), pos ≤ s.size ∧ wr.heap[w.heap.size]? = some (.stringIter s pos) ∧ allIn set s pos ∧ Below w.heap.size w wr) (fun _ wr => s.size - wr.iterPos w.heap.size)
  case atStart => exact ⟨0, Nat.zero_le _, World.iter_heap _ _ _, allIn_zero _ _, (Below.refl _ _).alloc (Nat.le_refl _) _⟩
  case round =>
    obtain ⟨pos, hp, hit, hall, hb⟩ := hrel
    by_cases hlt : pos < s.size
    · have hnx : ∀ ty, (Instr.next (.pointer (some ⟨w.heap.size, 0, none⟩)) true ty).run Tryd.prog wr = _ := fun ty => Lib.run_next_any_at wr w.heap.size s pos ty hit hlt
      go_wp2
      have b1 := Lib.below_iterAt hb (k := w.heap.size) (Nat.le_refl _) s (pos + (Utf8.decode s pos).2)
      have h1 := Lib.iterAt_heap wr w.heap.size s pos (pos + (Utf8.decode s pos).2) hit
      have hsz : w.heap.size < (wr.iterAt w.heap.size s (pos + (Utf8.decode s pos).2)).heap.size := (Array.getElem?_eq_some_iff.1 h1).1
      generalize wr.iterAt w.heap.size s (pos + (Utf8.decode s pos).2) = W1 at b1 h1 hsz ⊢
      have hr := rune_in set s pos hlt HA.out
      have HR := Lib.hid hr
      clear hr
      go_loopw [7, 9] (fun v7 _ w' => ∃ (j : Nat), j ≤ set.size ∧ v7 = .bool (hasRune set (Utf8.decode s pos).1 j) ∧ w' = W1.iter set j) (fun _ _ w' => set.size - w'.iterPos W1.heap.size)
      case atStart => exact ⟨0, Nat.zero_le _, by rw [hasRune_zero], rfl⟩
      case round =>
        obtain ⟨j, hj, rfl, rfl⟩ := hrel
        by_cases hlj : j < set.size
        · have hnx2 : ∀ ty, (Instr.next (.pointer (some ⟨W1.heap.size, 0, none⟩)) true ty).run Tryd.prog (W1.iter set j) = _ := fun ty => run_next_ascii W1 set j ty hlj (ascii_at set HA.out j hlj)
          go_wp2
          all_goals
            go_roundw
            case rel => exact ⟨j + 1, by omega, by first | exact hasRune_yes hlj (by assumption) | exact hasRune_no hlj (by assumption), rfl⟩
            case measure => simp; omega
        · obtain rfl : j = set.size := by omega
          have hnx2 : ∀ ty, (Instr.next (.pointer (some ⟨W1.heap.size, 0, none⟩)) true ty).run Tryd.prog (W1.iter set set.size) = _ := fun ty => run_next_end W1 set set.size ty (by omega)
          have e1 := HR.out.1
          have e2 := HR.out.2
          cases hi : inSet set s[pos] with
          | true =>
            rw [hi] at e1
            have e3 := Lib.hid (e2 hi)
            have hall' := allIn_succ hall hlt hi
            clear e2 hi hall HR
            go_wp2
            go_roundw
            case rel => exact ⟨pos + 1, by omega, by rw [← e3.out]; exact (Below.heap_alloc W1 _ _ hsz).trans h1, hall', b1.alloc (Nat.le_of_lt hsz) _⟩
            case measure =>
              have q := iterPos_of (w := W1.iter set set.size) ((Below.heap_alloc W1 (.stringIter set set.size) _ hsz).trans h1)
              rw [q, iterPos_of hit, e3.out]
              omega
          | false =>
            rw [hi] at e1
            have hk := Lib.hid (headLen_at set s pos hlt hall hi)
            clear e2 hi hall HR
            go_wp2
            go_ret
            refine ⟨?_, b1.alloc (Nat.le_of_lt hsz) _⟩
            rw [hk.out]
            rfl
    · obtain rfl : pos = s.size := by omega
      have hnx : ∀ ty, (Instr.next (.pointer (some ⟨w.heap.size, 0, none⟩)) true ty).run Tryd.prog wr = _ := fun ty => Lib.run_next_end_at wr w.heap.size s s.size ty hit hlt
      go_wp2
      go_ret
      refine ⟨?_, hb⟩
      rw [headLen_all set s hall, extract_end]
      rfl
theorem lex_cutLeft.calls (a0 a1 r : ByteArray) (w : World) (h : lex_cutLeft.f a0 a1 = some r) :
    Calls Tryd.prog 111 #[.string a0, .string a1] w fun e w' => e = .returned (.string r) ∧ Below w.heap.size w w' := by
  unfold lex_cutLeft.f at h
  split at h
  · obtain rfl := Option.some.inj h
    exact lex_cutLeft.walk a0 a1 w (by assumption)
  · cases h
end Go.Proofs.YthnjdfblappkfaaDoor
