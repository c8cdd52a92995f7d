/-
  lex.skip: how many bytes of blanks and comments stand at a text's begin.
-/
import Derived.Test.YthnjdfblappkfaaDoorLib1
import Derived.Test.YthnjdfblappkfaaDoorRunEq
namespace Go.Proofs.YthnjdfblappkfaaDoor
open Go.RowKit Go.Proofs.YthnjdfblappkfaaDoorW.PrintWords

namespace Lx
theorem skipM_blanks : ∀ l : List UInt8, skipM .n l = skipM .n (l.dropWhile blankB)
  | [] => rfl
  | b :: l => by
    by_cases h : blankB b = true
    · rw [List.dropWhile_cons_of_pos h, ← skipM_blanks l]
      simp only [skipM, h, if_true]
    · rw [List.dropWhile_cons_of_neg h]
theorem skipM_line : ∀ l : List UInt8, (Lib.indexByte l 10 = -1 ∧ skipM .l l = ([], true)) ∨ ∃ k : Nat, Lib.indexByte l 10 = k ∧ k < l.length ∧ skipM .l l = skipM .n (l.drop k)
  | [] => .inl ⟨rfl, rfl⟩
  | b :: l => by
    by_cases h : b = 10
    · subst h
      refine .inr ⟨0, rfl, by simp, ?_⟩
      have e : blankB 10 = true := by decide
      simp [skipM, e]
    · have hb : (b == 10) = false := beq_eq_false_iff_ne.2 h
      rcases skipM_line l with ⟨h1, h2⟩ | ⟨k, h1, h2, h3⟩
      · left
        simp [Lib.indexByte, hb, h1, skipM, h, h2]
      · right
        refine ⟨k + 1, ?_, by simpa using h2, ?_⟩
        · have : ((k : Int) == -1) = false := by rw [beq_eq_false_iff_ne]; omega
          simp [Lib.indexByte, hb, h1, this]
        · simp [skipM, h, h3]
theorem skipM_block (st : List UInt8) : ∀ l : List UInt8, (Lib.index l [42, 47] = -1 ∧ skipM (.c st) l = (st, false)) ∨ ∃ k : Nat, Lib.index l [42, 47] = k ∧ k + 2 ≤ l.length ∧ skipM (.c st) l = skipM .n (l.drop (k + 2))
  | [] => .inl ⟨rfl, rfl⟩
  | b :: l => by
    by_cases h : b = 42 ∧ l.head? = some 47
    · obtain ⟨rfl, h2⟩ := h
      cases l with
      | nil => simp at h2
      | cons c r =>
        simp at h2
        subst h2
        refine .inr ⟨0, rfl, by simp, ?_⟩
        simp [skipM]
    · have hp : ([42, 47] : List UInt8).isPrefixOf (b :: l) = false := by
        cases l with
        | nil => simp [List.isPrefixOf]
        | cons c r =>
          simp only [List.head?_cons, Option.some.injEq] at h
          simp only [List.isPrefixOf, Bool.and_true, Bool.and_eq_false_iff, beq_eq_false_iff_ne]
          by_cases hb : b = 42
          · exact .inr (fun e => h ⟨hb, e.symm⟩)
          · exact .inl (fun e => hb e.symm)
      rcases skipM_block st l with ⟨h1, h2⟩ | ⟨k, h1, h2, h3⟩
      · left
        constructor
        · simp [Lib.index, hp, h1]
        · simp only [skipM]; rw [if_neg h]; exact h2
      · right
        refine ⟨k + 1, ?_, by simp; omega, ?_⟩
        · have : ((k : Int) == -1) = false := by rw [beq_eq_false_iff_ne]; omega
          simp [Lib.index, hp, h1, this]
        · simp only [skipM]; rw [if_neg h, h3]; rfl
theorem skip_pct (r : List UInt8) : skipM .n (37 :: r) = skipM .l r := by
  have : blankB 37 = false := by decide
  simp [skipM, this]
theorem skip_com (r : List UInt8) : skipM .n (47 :: 42 :: r) = skipM (.c (47 :: 42 :: r)) r := by
  have : blankB 47 = false := by decide
  simp [skipM, this]
theorem skip_stop (rest : List UInt8) (h0 : ∀ b r, rest = b :: r → blankB b = false) (h1 : ¬ ∃ r, rest = 37 :: r) (h2 : ¬ ∃ r, rest = 47 :: 42 :: r) : skipM .n rest = (rest, true) := by
  cases rest with
  | nil => rfl
  | cons b r =>
    simp only [skipM, h0 b r rfl]
    rw [if_neg (by decide), if_neg (fun e => h1 ⟨r, by rw [e]⟩), if_neg]
    rintro ⟨rfl, e⟩
    cases r with
    | nil => simp at e
    | cons c r' => simp at e; exact h2 ⟨r', by rw [e]⟩
theorem dropWhile_head {α : Type} (p : α → Bool) : ∀ (l : List α) (b : α) (r : List α), l.dropWhile p = b :: r → p b = false
  | [], b, r, h => by simp at h
  | a :: l, b, r, h => by
    by_cases ha : p a = true
    · rw [List.dropWhile_cons_of_pos ha] at h
      exact dropWhile_head p l b r h
    · rw [List.dropWhile_cons_of_neg ha] at h
      injection h with h _
      rw [← h]
      simpa using ha
end Lx

def lex_skip.f (a0 : ByteArray) : Option (Int × Bool) :=
  if a0.size < 4294967281 then some ((a0.size - (Lx.skip (bl a0)).1.length : Nat), (Lx.skip (bl a0)).2) else none

def KPost (q : List UInt8 × Bool) (n : Nat) (w : World) (e : Ending) (w' : World) : Prop :=
  e = .returned (.tuple #[.int .i64 (n - q.1.length : Nat), .bool q.2]) ∧ Below w.heap.size w w'

theorem run_call (s : ByteArray) (a : Nat) (W : World) (n : Nat) (hn : n = ((bl s).drop a |>.takeWhile Lx.blankB).length) (hs : s.size < 4294967281) :
    Calls Tryd.prog 82 #[.string (s.extract a s.size), .string ⟨#[32, 9, 13, 10]⟩] W fun e w' => e = .returned (.int .i64 n) ∧ Below W.heap.size W w' := by
  have h := run_eq (s.extract a s.size) setBlank ascii_blank (by rw [ba_from_size]; omega)
  rw [headLen_blank, bl_from, ← hn] at h
  exact P.lex_run.calls _ _ _ W h
theorem pre_call (s : ByteArray) (a : Nat) (p : ByteArray) (W : World) (b : Bool) (hb : Lib.hasPrefix ((bl s).drop a) (bl p) = b) :
    Calls Tryd.prog 70 #[.string (s.extract a s.size), .string p] W fun e w' => e = .returned (.bool b) ∧ W = w' := by
  refine (Tryd.strings_HasPrefix _ p W).mono ?_
  rintro e w' ⟨rfl, rfl⟩
  refine ⟨?_, rfl⟩
  have e := bl_from s a
  unfold bl at e
  rw [e, ← hb]
theorem nl_call (s : ByteArray) (a : Nat) (W : World) (k : Int) (hk : Lib.indexByte ((bl s).drop a) 10 = k) :
    Calls Tryd.prog 50 #[.string (s.extract a s.size), .int .u8 10] W fun e w' => e = .returned (.int .i64 k) ∧ W = w' := by
  refine (Tryd.strings_IndexByte _ 10 W).mono ?_
  rintro e w' ⟨rfl, rfl⟩
  refine ⟨?_, rfl⟩
  have e := bl_from s a
  unfold bl at e
  rw [e, ← hk]
  rfl
theorem end_call (s : ByteArray) (a : Nat) (W : World) (hL : LaidE W) (k : Int) (hk : Lib.index ((bl s).drop (a + 2)) [42, 47] = k) (hs : s.size < 4294967281) :
    Calls Tryd.prog 83 #[.string ((s.extract a s.size).extract 2 (s.size - a)), .string ⟨#[42, 47]⟩] W fun e w' => e = .returned (.int .i64 k) ∧ W = w' := by
  obtain ⟨m, hm⟩ := hL.num
  have hsz : ((s.extract a s.size).extract 2 (s.size - a)).data.toList = (bl s).drop (a + 2) := by
    have e1 := ba_from_size s a
    have e2 := bl_from (s.extract a s.size) 2
    rw [e1, bl_from, List.drop_drop] at e2
    exact e2
  have hlen : ((s.extract a s.size).extract 2 (s.size - a)).size < 4294967281 := by
    have := congrArg List.length hsz
    rw [List.length_drop] at this
    have e2 := bl_length s
    have e : ((s.extract a s.size).extract 2 (s.size - a)).data.toList.length = ((s.extract a s.size).extract 2 (s.size - a)).size := rfl
    omega
  refine (Tryd.strings_Index _ ⟨#[42, 47]⟩ m W hlen hm).mono ?_
  rintro e w' ⟨rfl, rfl⟩
  refine ⟨?_, rfl⟩
  rw [hsz, ← hk]

set_option maxHeartbeats 4000000 in
set_option maxRecDepth 100000 in
theorem lex_skip.walk (s : ByteArray) (w : World) (hL : LaidE w) (hs : s.size < 4294967281) :
    Calls Tryd.prog 48 #[.string s] w (KPost (Lx.skip (bl s)) s.size w) := by
  obtain ⟨q, hq⟩ : ∃ q, Lx.skipM .n ((bl s).drop 0) = q := ⟨_, rfl⟩
  have e0 : Lx.skip (bl s) = q := by rw [← hq]; rfl
  rw [e0]
  clear e0
  have HQ := Lib.hid hq
  have HL := Lib.hid hL
  clear hq hL
  go_enter Tryd.func48, Tryd.ntmps48
  go_wp2
  go_loopw [4] (fun v4 wr => ∃ p : Nat, v4 = .int .i64 p ∧ p ≤ s.size ∧ Hid (Lx.skipM .n ((bl s).drop p) = q) ∧ Below w.heap.size w wr) (fun v4 _ => s.size - (intOf v4).toNat)
  case atStart => exact ⟨0, rfl, Nat.zero_le _, HQ, Below.refl _ _⟩
  case round =>
    obtain ⟨p, rfl, hp, hR, hb⟩ := hrel
    obtain ⟨n, hn⟩ : ∃ n : Nat, n = ((bl s).drop p |>.takeWhile Lx.blankB).length := ⟨_, rfl⟩
    have hpn : p + n ≤ s.size := by
      have := Lx.dropWhile_len Lx.blankB ((bl s).drop p)
      rw [List.length_drop, bl_length] at this
      omega
    have hR1 : Lx.skipM .n ((bl s).drop (p + n)) = q := by
      have h := hR.out
      rw [Lx.skipM_blanks, ← drop_takeWhile, ← hn, List.drop_drop] at h
      exact h
    have hnb : ∀ b r, (bl s).drop (p + n) = b :: r → Lx.blankB b = false := by
      intro b r e
      rw [hn, ← List.drop_drop, drop_takeWhile] at e
      exact Lx.dropWhile_head _ _ _ _ e
    have HN := Lib.hid hn
    have HNB := Lib.hid hnb
    clear hnb
    have HR1 := Lib.hid hR1
    clear hn hR1
    go_wp2_with fail
    refine (run_call s p _ n HN.out hs).mono ?_
    rintro e w1 ⟨rfl, hb1⟩
    have hbw := hb.trans (hb1.mono hb.size)
    clear hb1
    have hrest : ((bl s).drop (p + n)).length = s.size - (p + n) := by rw [List.length_drop, bl_length]
    obtain ⟨rest, hr⟩ : ∃ rest, (bl s).drop (p + n) = rest := ⟨_, rfl⟩
    have HRS := Lib.hid hr
    have HLN := Lib.hid (hr ▸ hrest)
    have HR2 := Lib.hid (hr ▸ HR1.out)
    clear hr hrest
    by_cases hA : ∃ r, rest = 37 :: r
    · obtain ⟨r, rfl⟩ := hA
      have hLn := HLN.out
      simp only [List.length_cons] at hLn
      have hpre := Lib.hid (show Lib.hasPrefix ((bl s).drop (p + n)) (bl ⟨#[37]⟩) = true by rw [HRS.out]; rfl)
      have h2 := HR2.out
      rw [Lx.skip_pct] at h2
      rcases Lx.skipM_line r with ⟨k1, k2⟩ | ⟨k, k1, k2, k3⟩
      · have hk := Lib.hid (show Lib.indexByte ((bl s).drop (p + n)) 10 = -1 by rw [HRS.out]; simp [Lib.indexByte, k1])
        have hq := Lib.hid (show Lx.skipM .n ((bl s).drop s.size) = q by rw [← h2, k2, List.drop_eq_nil_of_le (Nat.le_of_eq (bl_length s))]; rfl)
        clear h2 k1 k2
        go_wp2_with (first | (go_at_call 70; refine (pre_call s (p + n) ⟨#[37]⟩ _ true hpre.out).mono ?_; rintro e w2 ⟨rfl, rfl⟩) | (go_at_call 50; refine (nl_call s (p + n) _ (-1) hk.out).mono ?_; rintro e w2 ⟨rfl, rfl⟩))
        go_roundw
        case rel => exact ⟨s.size, rfl, Nat.le_refl _, hq, hbw⟩
        case measure => simp [intOf]; omega
      · have hk := Lib.hid (show Lib.indexByte ((bl s).drop (p + n)) 10 = (k + 1 : Nat) by
          rw [HRS.out]
          have e : ((k : Int) == -1) = false := by rw [beq_eq_false_iff_ne]; omega
          simp [Lib.indexByte, k1, e])
        have hq := Lib.hid (show Lx.skipM .n ((bl s).drop (p + n + (k + 1))) = q by rw [← h2, k3, ← List.drop_drop, HRS.out]; rfl)
        clear h2 k1 k3
        go_wp2_with (first | (go_at_call 70; refine (pre_call s (p + n) ⟨#[37]⟩ _ true hpre.out).mono ?_; rintro e w2 ⟨rfl, rfl⟩) | (go_at_call 50; refine (nl_call s (p + n) _ _ hk.out).mono ?_; rintro e w2 ⟨rfl, rfl⟩))
        go_roundw
        case rel => exact ⟨p + n + (k + 1), by go_num, by omega, hq, hbw⟩
        case measure => simp [intOf]; omega
    · have hpre := Lib.hid (show Lib.hasPrefix ((bl s).drop (p + n)) (bl ⟨#[37]⟩) = false by
        rw [HRS.out]
        cases rest with
        | nil => rfl
        | cons b r =>
          have hb : b ≠ 37 := fun e => hA ⟨r, by rw [e]⟩
          have : ((37 : UInt8) == b) = false := beq_eq_false_iff_ne.2 (Ne.symm hb)
          simp [Lib.hasPrefix, List.isPrefixOf, this])
      by_cases hB : ∃ r, rest = 47 :: 42 :: r
      · obtain ⟨r, rfl⟩ := hB
        have hLn := HLN.out
        simp only [List.length_cons] at hLn
        have hpre2 := Lib.hid (show Lib.hasPrefix ((bl s).drop (p + n)) (bl ⟨#[47, 42]⟩) = true by rw [HRS.out]; rfl)
        have h2 := HR2.out
        rw [Lx.skip_com] at h2
        have hd2 : (bl s).drop (p + n + 2) = r := by rw [← List.drop_drop, HRS.out]; rfl
        clear hA
        rcases Lx.skipM_block (47 :: 42 :: r) r with ⟨k1, k2⟩ | ⟨k, k1, k2, k3⟩
        · have hk := Lib.hid (show Lib.index ((bl s).drop (p + n + 2)) [42, 47] = -1 by rw [hd2, k1])
          have hq := Lib.hid (show q = (47 :: 42 :: r, false) by rw [← h2, k2])
          clear h2 k1 k2 hd2
          go_wp2_with (first | (go_at_call 70; refine (pre_call s (p + n) ⟨#[37]⟩ _ false hpre.out).mono ?_; clear hpre; rintro e w2 ⟨rfl, rfl⟩) | (go_at_call 70; refine (pre_call s (p + n) ⟨#[47, 42]⟩ _ true hpre2.out).mono ?_; rintro e w2 ⟨rfl, rfl⟩) | (go_at_call 83; refine (end_call s (p + n) _ (HL.out.below hbw) _ hk.out hs).mono ?_; rintro e w2 ⟨rfl, rfl⟩))
          go_ret2
          rw [hq.out]
          refine ⟨?_, hbw⟩
          have e : s.size - (47 :: 42 :: r).length = p + n := by simp only [List.length_cons]; omega
          show Ending.returned _ = _
          simp only [e]
          rfl
        · have hk := Lib.hid (show Lib.index ((bl s).drop (p + n + 2)) [42, 47] = k by rw [hd2, k1])
          have hq := Lib.hid (show Lx.skipM .n ((bl s).drop (p + n + (k + 4))) = q by rw [← h2, k3, ← hd2, List.drop_drop]; congr 2; omega)
          clear h2 k1 k3 hd2
          go_wp2_with (first | (go_at_call 70; refine (pre_call s (p + n) ⟨#[37]⟩ _ false hpre.out).mono ?_; clear hpre; rintro e w2 ⟨rfl, rfl⟩) | (go_at_call 70; refine (pre_call s (p + n) ⟨#[47, 42]⟩ _ true hpre2.out).mono ?_; rintro e w2 ⟨rfl, rfl⟩) | (go_at_call 83; refine (end_call s (p + n) _ (HL.out.below hbw) _ hk.out hs).mono ?_; rintro e w2 ⟨rfl, rfl⟩))
          go_roundw
          case rel => exact ⟨p + n + (k + 4), by go_num, by omega, hq, hbw⟩
          case measure => simp [intOf]; omega
      · have hpre2 := Lib.hid (show Lib.hasPrefix ((bl s).drop (p + n)) (bl ⟨#[47, 42]⟩) = false by
          rw [HRS.out]
          cases rest with
          | nil => rfl
          | cons b r =>
            cases r with
            | nil => simp [Lib.hasPrefix, List.isPrefixOf]
            | cons c r' =>
              have : ¬ (47 = b ∧ 42 = c) := fun e => hB ⟨r', by rw [← e.1, ← e.2]⟩
              simpa [Lib.hasPrefix, List.isPrefixOf] using this)
        have hq := Lib.hid (show q = (rest, true) by rw [← HR2.out]; exact Lx.skip_stop rest (fun b r e => HNB.out b r (HRS.out.trans e)) hA hB)
        have hl := HLN.out
        clear hA hB
        go_wp2_with (first | (go_at_call 70; refine (pre_call s (p + n) ⟨#[37]⟩ _ false hpre.out).mono ?_; clear hpre; rintro e w2 ⟨rfl, rfl⟩) | (go_at_call 70; refine (pre_call s (p + n) ⟨#[47, 42]⟩ _ false hpre2.out).mono ?_; rintro e w2 ⟨rfl, rfl⟩))
        go_ret2
        rw [hq.out]
        refine ⟨?_, hbw⟩
        have e : s.size - rest.length = p + n := by omega
        show Ending.returned _ = _
        simp only [e]
        rfl

theorem lex_skip.calls (a0 : ByteArray) (r1 : Int) (r2 : Bool) (w : World) (hL : LaidE w) (h : lex_skip.f a0 = some (r1, r2)) :
    Calls Tryd.prog 48 #[.string a0] w fun e w' => e = .returned (.tuple #[.int .i64 r1, .bool r2]) ∧ Below w.heap.size w w' := by
  unfold lex_skip.f at h
  split at h
  · simp only [Option.some.injEq, Prod.mk.injEq] at h
    obtain ⟨rfl, rfl⟩ := h
    exact lex_skip.walk a0 w hL (by assumption)
  · cases h
end Go.Proofs.YthnjdfblappkfaaDoor
