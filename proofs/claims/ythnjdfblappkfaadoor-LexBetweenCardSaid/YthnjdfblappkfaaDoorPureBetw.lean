import Derived.Test.YthnjdfblappkfaaDoorPresolventlaw06LexBetweenF
import Derived.Test.YthnjdfblappkfaaDoorLxBetw
import Derived.Test.YthnjdfblappkfaaDoorBetwStep
import Derived.Test.YthnjdfblappkfaaDoorWakes
import Derived.Test.YthnjdfblappkfaaDoorRunEq
/-!
  LexBetween: the plain half.
-/
namespace Go.Proofs.YthnjdfblappkfaaDoor.Lx

theorem take_facts {s w rest : List UInt8} {k : Nat} {n : Int} (h : take s = .ok (k, w, n, rest)) :
    (k = 1 ∨ k = 3 ∨ k = 5 → s = w ++ rest ∧ w ≠ []) ∧ (k = 6 → s = 46 :: rest) ∧
    (k = 4 → ∃ u, s = u ++ rest ∧ (∀ b ∈ u, digitB b = true) ∧ ∀ b, rest.head? = some b → digitB b = false) ∧ 1 ≤ k ∧ k ≤ 6 := by
  cases s with
  | nil => simp [take] at h
  | cons b r =>
    simp only [take] at h
    by_cases h1 : lowerB b = true
    · rw [if_pos h1] at h
      simp at h
      obtain ⟨rfl, rfl, rfl, rfl⟩ := h
      have hl : letterB b = true := by simp [letterB, h1]
      exact ⟨fun _ => ⟨(List.takeWhile_append_dropWhile).symm, by rw [List.takeWhile_cons_of_pos hl]; simp⟩, by omega, by omega, by omega, by omega⟩
    rw [if_neg h1] at h
    by_cases h2 : upperB b = true
    · rw [if_pos h2] at h
      simp at h
      obtain ⟨rfl, rfl, rfl, rfl⟩ := h
      have hl : letterB b = true := by simp [letterB, h2]
      exact ⟨fun _ => ⟨(List.takeWhile_append_dropWhile).symm, by rw [List.takeWhile_cons_of_pos hl]; simp⟩, by omega, by omega, by omega, by omega⟩
    rw [if_neg h2] at h
    by_cases h3 : digitB b = true
    · rw [if_pos h3] at h
      split at h
      · rename_i hc
        simp at h
        obtain ⟨rfl, rfl, rfl, rfl⟩ := h
        refine ⟨by omega, by omega, fun _ => ⟨(b :: r).takeWhile letterB, (List.takeWhile_append_dropWhile).symm, fun c hc' => List.all_eq_true.1 hc.1 c hc', fun c hc' => ?_⟩, by omega, by omega⟩
        have hnl : letterB c = false := by
          generalize b :: r = l at hc'
          induction l with
          | nil => simp at hc'
          | cons d l ih =>
            by_cases hd : letterB d = true
            · rw [List.dropWhile_cons_of_pos hd] at hc'; exact ih hc'
            · rw [List.dropWhile_cons_of_neg hd] at hc'; simp at hc'; subst hc'; simpa using hd
        have : (lowerB c || upperB c || digitB c) = false := hnl
        simp at this
        exact this.2
      · simp at h
    rw [if_neg h3] at h
    by_cases h4 : signB b = true
    · rw [if_pos h4] at h
      simp at h
      obtain ⟨rfl, rfl, rfl, rfl⟩ := h
      exact ⟨fun _ => ⟨rfl, by simp⟩, by omega, by omega, by omega, by omega⟩
    rw [if_neg h4] at h
    by_cases h5 : bangB b = true
    · rw [if_pos h5] at h
      simp at h
      obtain ⟨rfl, rfl, rfl, rfl⟩ := h
      exact ⟨fun _ => ⟨rfl, by simp⟩, by omega, by omega, by omega, by omega⟩
    rw [if_neg h5] at h
    by_cases h6 : symbolB b = true
    · rw [if_pos h6] at h
      split at h
      · rename_i hc
        simp at h
        obtain ⟨rfl, rfl, rfl, rfl⟩ := h
        refine ⟨by omega, fun _ => ?_, by omega, by omega, by omega⟩
        have := List.takeWhile_append_dropWhile (p := symbolB) (l := b :: r)
        rw [hc.1] at this
        exact this.symm
      · simp at h
        obtain ⟨rfl, rfl, rfl, rfl⟩ := h
        exact ⟨fun _ => ⟨(List.takeWhile_append_dropWhile).symm, by rw [List.takeWhile_cons_of_pos h6]; simp⟩, by omega, by omega, by omega, by omega⟩
    rw [if_neg h6] at h
    by_cases h7 : b = 39
    · rw [if_pos h7] at h
      rcases hq : quotedM [] r with _ | ⟨w', rest'⟩
      · rw [hq] at h; simp at h
      · rw [hq] at h
        simp at h
        obtain ⟨rfl, rfl, rfl, rfl⟩ := h
        exact ⟨by omega, by omega, by omega, by omega, by omega⟩
    · rw [if_neg h7] at h; simp at h

theorem lex_chain {s : List UInt8} {l : List Tok} (h : lex s = .ok l) : Chain s 0 l := by
  unfold lex at h
  split at h
  · simp at h
  · exact chain s (s.length + 1) 0 l (by omega) (by omega) (by simpa using h)
theorem lex_err {s : List UInt8} {q n : Nat} (hs : s.length ≤ 8192) (h : lex s = .error (q, n)) : q < s.length ∧ (n = 10 ∨ n = 3) := by
  unfold lex at h
  rw [if_neg (by omega)] at h
  have := lexF_err _ _ _ _ _ (by omega) h
  rw [Nat.zero_add] at this
  exact this
theorem chain_last (s : List UInt8) : ∀ l p, Chain s p l → ∃ x, l.getLast? = some x ∧ x.pos = s.length
  | [], p, h => h.elim
  | x :: l, p, h => by
    rcases h.2.2.2 with ⟨_, rfl, hx⟩ | ⟨p2, _, _, _, hc⟩
    · exact ⟨x, rfl, hx⟩
    · obtain ⟨y, hy, hp⟩ := chain_last s l p2 hc
      cases l with
      | nil => exact hc.elim
      | cons z l => exact ⟨y, by rw [List.getLast?_cons_cons]; exact hy, hp⟩
theorem chain_len (s : List UInt8) : ∀ l p, Chain s p l → p + l.length ≤ s.length + 1
  | [], p, h => h.elim
  | x :: l, p, h => by
    rcases h.2.2.2 with ⟨_, rfl, hx⟩ | ⟨p2, h1, h2, _, hc⟩
    · have := h.1; simp; omega
    · have := chain_len s l p2 hc; have := h.1; simp; omega
end Go.Proofs.YthnjdfblappkfaaDoor.Lx

namespace Go.Proofs.YthnjdfblappkfaaDoor.Betw
open Go.RowKit Go.Proofs.YthnjdfblappkfaaDoor.P Go.Proofs.YthnjdfblappkfaaDoorW.PrintWords Go.Proofs.YthnjdfblappkfaaDoorW.PrintLast
open Go Go.Proofs.YthnjdfblappkfaaDoor

def Ev {α : Type} (f : Nat → Option α) (r : α) : Prop := ∃ k, ∀ n, k ≤ n → f n = some r
theorem Ev.steps {α : Type} {f g : Nat → Option α} {r : α} (c a : Nat) (h : Ev g r) (e : ∀ n, f (n + c) = g (n + a)) : Ev f r := by
  obtain ⟨k, hk⟩ := h
  refine ⟨k + c, fun n hn => ?_⟩
  obtain ⟨m, rfl⟩ : ∃ m, n = m + c := ⟨n - c, by omega⟩
  rw [e]; exact hk _ (by omega)
theorem Ev.nows {α : Type} {f : Nat → Option α} {r : α} (c : Nat) (e : ∀ n, f (n + c) = some r) : Ev f r :=
  ⟨c, fun n hn => by obtain ⟨m, rfl⟩ : ∃ m, n = m + c := ⟨n - c, by omega⟩; exact e m⟩

def lxo (q : Except (Nat × Nat) (List Lx.Tok)) : List S49 × Int × Int :=
  match q with
  | .error (p, n) => ([], (p : Int), (n : Int))
  | .ok l => (l.map tokS, 0, 0)
theorem lex_o (x : ByteArray) : lex_Lex.f x = some (lxo (Lx.lex (bl x))) := by
  unfold lex_Lex.f lxo
  rcases Lx.lex (bl x) with ⟨p, n⟩ | l <;> rfl
theorem rd49 (l : List Lx.Tok) (i : Nat) (h : i < l.length) : rd_T49 (l.map tokS) (i : Int) = tokS l[i] := by
  unfold rd_T49
  simp [List.getD_eq_getElem?_getD, h]
theorem at_drop (x : ByteArray) (i : Nat) (h : i < x.size) : ∃ b, (bl x).drop i = b :: (bl x).drop (i + 1) ∧ bt x (i : Int) = (b.toNat : Int) := by
  refine ⟨x[i], ?_, ?_⟩
  · have := List.drop_eq_getElem_cons (l := bl x) (i := i) (by rw [bl_length]; exact h)
    rw [this]; rfl
  · unfold bt
    rw [dif_pos (by simpa using h)]; rfl
theorem byteAll (q : UInt8 → Bool) (h : (List.range 256).all (fun n => q (UInt8.ofNat n)) = true) (b : UInt8) : q b = true := by
  have := List.all_eq_true.1 h b.toNat (List.mem_range.2 b.toNat_lt)
  simpa using this
theorem digit_f (b : UInt8) : resolventref06_Digit.f (b.toNat : Int) = some (Lx.digitB b) := by
  have := byteAll (fun b => decide (resolventref06_Digit.f (b.toNat : Int) = some (Lx.digitB b))) (by kernel_rfl) b
  simpa using this

/-- The bytes from a place to another are one token: an end. -/
def One (s : ByteArray) (a b : Nat) : Prop := ∃ t, Lx.lex (((bl s).drop a).take (b - a)) = .ok [t]
theorem ext_bl (s : ByteArray) (a b : Nat) : bl (s.extract (a : Int).toNat (b : Int).toNat) = ((bl s).drop a).take (b - a) := by
  rw [Int.toNat_natCast, Int.toNat_natCast, bl_extract, List.drop_take]

theorem back_all (s : ByteArray) (hs : s.size ≤ 2000) (z0 : Nat) (hz0 : z0 ≤ s.size) : ∀ d j, 1 ≤ j → j ≤ 4000 → z0 - j ≤ d →
    ∃ r : Nat, r ≤ z0 ∧ One s r z0 ∧ Ev (fun k => resolventlaw06_back.l0 k s (z0 : Int) (j : Int)) (r : Int) := by
  intro d
  induction d with
  | zero =>
    intro j h1 h2 hd
    refine ⟨z0, Nat.le_refl _, ?_, Ev.nows 1 fun n => ?_⟩
    · unfold One; rw [Nat.sub_self, List.take_zero]; exact ⟨_, rfl⟩
    · simp only [resolventlaw06_back.l0]
      rw [if_neg (by omega)]
  | succ d ih =>
    intro j h1 h2 hd
    by_cases hlt : j < z0
    · obtain ⟨r, hr, ho, he⟩ := ih (j + 1) (by omega) (by omega) (by omega)
      have hw1 : wrap64 ((j : Int) - 1) = ((j - 1 : Nat) : Int) := by rw [wrap_small (by omega) (by omega)]; omega
      have hw2 : wrap64 ((j : Int) + 1) = ((j + 1 : Nat) : Int) := wrap_small (by omega) (by omega)
      have j1f : ∀ n, resolventlaw06_back.j1 (n + 1) s (z0 : Int) (j : Int) false = resolventlaw06_back.l0 n s (z0 : Int) ((j + 1 : Nat) : Int) := by
        intro n
        simp only [resolventlaw06_back.j1]
        rw [if_neg (by decide), hw2]
      by_cases h39 : bt s ((j - 1 : Nat) : Int) = 39
      · have st : ∀ n, resolventlaw06_back.l0 (n + 1) s (z0 : Int) (j : Int) = resolventlaw06_back.j1 n s (z0 : Int) (j : Int) (bt s (j : Int) != 39) := by
          intro n
          simp only [resolventlaw06_back.l0]
          rw [if_pos (by omega), hw1, if_pos (by omega), if_pos (by omega), if_pos h39, if_pos (by omega), if_pos (by omega)]
        by_cases hq : (bt s (j : Int) != 39) = true
        · have j1t : ∀ n, resolventlaw06_back.j1 (n + 1) s (z0 : Int) (j : Int) true = if (lxo (Lx.lex (((bl s).drop j).take (z0 - j)))).2.2 = 0 then (if (((lxo (Lx.lex (((bl s).drop j).take (z0 - j)))).1.length : Nat) : Int) = 1 then some (j : Int) else resolventlaw06_back.l0 n s (z0 : Int) ((j + 1 : Nat) : Int)) else resolventlaw06_back.l0 n s (z0 : Int) ((j + 1 : Nat) : Int) := by
            intro n
            simp only [resolventlaw06_back.j1]
            rw [if_pos trivial, if_pos (by omega), if_pos (by omega), if_pos (by omega), lex_o, ext_bl, Option.bind_some, hw2]
          rcases hl : Lx.lex (((bl s).drop j).take (z0 - j)) with ⟨p, n⟩ | l
          · rw [hl] at j1t
            refine ⟨r, hr, ho, Ev.steps 2 0 he fun n => ?_⟩
            show resolventlaw06_back.l0 (n + 1 + 1) _ _ _ = _
            rw [st, hq, j1t]
            split
            · rw [if_neg (by simp [lxo])]; rfl
            · rfl
          · rw [hl] at j1t
            by_cases h1l : l.length = 1
            · obtain ⟨t, rfl⟩ := List.length_eq_one_iff.1 h1l
              refine ⟨j, by omega, ⟨t, hl⟩, Ev.nows 2 fun n => ?_⟩
              show resolventlaw06_back.l0 (n + 1 + 1) _ _ _ = _
              rw [st, hq, j1t, if_pos (show (lxo (.ok [t])).2.2 = 0 from rfl), if_pos (show (((lxo (.ok [t])).1.length : Nat) : Int) = 1 from rfl)]
            · refine ⟨r, hr, ho, Ev.steps 2 0 he fun n => ?_⟩
              show resolventlaw06_back.l0 (n + 1 + 1) _ _ _ = _
              rw [st, hq, j1t, if_pos (show (lxo (.ok l)).2.2 = 0 from rfl), if_neg (by simp only [lxo, List.length_map]; omega)]
              rfl
        · have hq' : (bt s (j : Int) != 39) = false := by simpa using hq
          refine ⟨r, hr, ho, Ev.steps 2 0 he fun n => ?_⟩
          show resolventlaw06_back.l0 (n + 1 + 1) _ _ _ = _
          rw [st, hq', j1f]
          rfl
      · refine ⟨r, hr, ho, Ev.steps 2 0 he fun n => ?_⟩
        show resolventlaw06_back.l0 (n + 1 + 1) _ _ _ = _
        simp only [resolventlaw06_back.l0]
        rw [if_pos (by omega), hw1, if_pos (by omega), if_pos (by omega), if_neg h39, j1f]
        rfl
    · exact ih j h1 h2 (by omega)

theorem digits_all (s : ByteArray) (hs2 : s.size ≤ 2000) (L : List S49) (p2 i : Nat) (hp2 : p2 ≤ s.size) (hend : ∀ b, ((bl s).drop p2).head? = some b → Lx.digitB b = false)
    (hn : Ev (fun k => resolventlaw06_LexBetween.l0 k s L (p2 : Int) (wrap64 ((i : Int) + 1))) true) : ∀ (u : List UInt8) (j : Nat), (∀ b ∈ u, Lx.digitB b = true) → (bl s).drop j = u ++ (bl s).drop p2 → j + u.length = p2 →
    Ev (fun k => resolventlaw06_LexBetween.l1 k s L (j : Int) (i : Int)) true := by
  intro u
  induction u with
  | nil =>
    intro j _ _ hj
    have hj' : j = p2 := by simpa using hj
    subst hj'
    refine Ev.steps 1 0 hn fun n => ?_
    simp only [resolventlaw06_LexBetween.l1]
    by_cases hlt : j < s.size
    · obtain ⟨b, hdrop, hb⟩ := at_drop s j hlt
      have hd := hend b (by rw [hdrop]; rfl)
      rw [if_pos (by omega), if_pos (by omega), hb, digit_f, hd, Option.bind_some, if_neg (by decide)]
      rfl
    · rw [if_neg (by omega)]
      rfl
  | cons c u ih =>
    intro j hall hdr hj
    simp at hj
    have hlt : j < s.size := by omega
    obtain ⟨b, hdrop, hb⟩ := at_drop s j hlt
    rw [hdrop, List.cons_append, List.cons.injEq] at hdr
    have hd : Lx.digitB b = true := by rw [hdr.1]; exact hall c (by simp)
    refine Ev.steps 1 0 (ih (j + 1) (fun b hb' => hall b (by simp [hb'])) hdr.2 (by omega)) fun n => ?_
    simp only [resolventlaw06_LexBetween.l1]
    rw [if_pos (by omega), if_pos (by omega), hb, digit_f, hd, Option.bind_some, if_pos rfl, wrap_small (by have := hs2; omega) (by have := hs2; omega)]
    rfl

/-- To the token's kind. -/
theorem start (s : ByteArray) (_ : s.size ≤ 2000) (L : List Lx.Tok) (hL : L.length ≤ 3000) (x : Lx.Tok) (i e : Nat) (hi : i < L.length) (hx : L[i] = x) (hpn : x.pos ≤ s.size) (he : e ≤ x.pos) (ho : One s e x.pos)
    (hb : (((x.kind : Int) == 7) != ((i : Int) == (L.length : Int) - 1)) = false) (n : Nat) :
    resolventlaw06_LexBetween.l0 (n + 1 + 1 + 1) s (L.map tokS) (e : Int) (i : Int) = resolventlaw06_LexBetween.j4 n s (L.map tokS) (x.pos : Int) (i : Int) (x.kind : Int) (decide (x.kind = 1 ∨ x.kind = 3 ∨ x.kind = 5)) (tokS x).f0 (tokS x).f1 (tokS x).f2 (tokS x).f3 (tokS x).f4 := by
  have h3 : (tokS x).f3 = (x.pos : Int) := rfl
  have h0 : (tokS x).f0 = (x.kind : Int) := rfl
  obtain ⟨t, ht⟩ := ho
  have s1 : ∀ n, resolventlaw06_LexBetween.l0 (n + 1) s (L.map tokS) (e : Int) (i : Int) = resolventlaw06_LexBetween.j2 n s (L.map tokS) (e : Int) (i : Int) false (tokS x).f0 (tokS x).f1 (tokS x).f2 (tokS x).f3 (tokS x).f4 := by
    intro n
    simp only [resolventlaw06_LexBetween.l0]
    rw [if_pos (by rw [List.length_map]; omega), if_pos (by omega), rd49 L i hi, hx, if_neg (by rw [h3]; omega), if_neg (by rw [h3]; omega), List.length_map, wrap_small (i := (L.length : Int) - 1) (by omega) (by omega), h0, hb]
  have s2 : ∀ n, resolventlaw06_LexBetween.j2 (n + 1) s (L.map tokS) (e : Int) (i : Int) false (tokS x).f0 (tokS x).f1 (tokS x).f2 (tokS x).f3 (tokS x).f4 = resolventlaw06_LexBetween.j3 n s (L.map tokS) (i : Int) false (tokS x).f0 (tokS x).f1 (tokS x).f2 (tokS x).f3 (tokS x).f4 := by
    intro n
    simp only [resolventlaw06_LexBetween.j2]
    rw [if_neg (by decide), if_pos (by omega), if_pos (by rw [h3]; omega), if_pos (by rw [h3]; omega), lex_o, h3, ext_bl, ht, Option.bind_some, if_pos (show (lxo (.ok [t])).2.2 = 0 from rfl)]
    rfl
  rw [s1, s2]
  simp only [resolventlaw06_LexBetween.j3]
  rw [if_neg (by decide), h0, h3]
  by_cases k1 : x.kind = 1
  · rw [if_pos (by omega), k1]; rfl
  · rw [if_neg (by omega)]
    by_cases k3 : x.kind = 3
    · rw [if_pos (by omega), k3]; rfl
    · rw [if_neg (by omega)]
      by_cases k5 : x.kind = 5
      · rw [k5]; rfl
      · rw [show ((x.kind : Int) == 5) = false by simp; omega, decide_eq_false (by omega)]

set_option maxHeartbeats 800000 in
theorem loop (s : ByteArray) (hs : s.size ≤ 2000) (L : List Lx.Tok) (hL : L.length ≤ 3000) : ∀ (l : List Lx.Tok) (x : Lx.Tok) (i e p : Nat), L.drop i = x :: l → Lx.Chain (bl s) p (x :: l) → e ≤ x.pos → One s e x.pos →
    Ev (fun k => resolventlaw06_LexBetween.l0 k s (L.map tokS) (e : Int) (i : Int)) true := by
  intro l
  induction l with
  | nil =>
    intro x i e p hdr hc he ho
    have hi : i < L.length := by
      rcases Nat.lt_or_ge i L.length with h | h
      · exact h
      · rw [List.drop_eq_nil_iff.2 h] at hdr; simp at hdr
    have hlen : L.length = i + 1 := by
      have := congrArg List.length hdr
      rw [List.length_drop] at this; simp at this; omega
    have hx : L[i] = x := (List.cons.inj (hdr.symm.trans (List.drop_eq_getElem_cons hi))).1.symm
    obtain ⟨_, hpn, _, ⟨h7, _, hpe⟩ | ⟨p2, _, _, _, hc'⟩⟩ := hc
    · rw [bl_length] at hpn
      have hb : (((x.kind : Int) == 7) != ((i : Int) == (L.length : Int) - 1)) = false := by
        rw [show (L.length : Int) - 1 = (i : Int) by omega, show (x.kind : Int) = 7 by omega]; simp
      have hend : ∀ n, resolventlaw06_LexBetween.l0 (n + 1) s (L.map tokS) (x.pos : Int) ((i + 1 : Nat) : Int) = some true := by
        intro n
        simp only [resolventlaw06_LexBetween.l0]
        rw [if_neg (by rw [List.length_map]; omega), Pure.wakes]
        rfl
      refine Ev.nows 5 fun n => ?_
      show resolventlaw06_LexBetween.l0 (n + 1 + 1 + 1 + 1 + 1) _ _ _ _ = _
      rw [start s hs L hL x i e hi hx hpn he ho hb, decide_eq_false (by omega)]
      simp only [resolventlaw06_LexBetween.j4]
      rw [if_neg (by decide), if_neg (by omega), if_neg (by omega), if_neg (by omega), wrap_small (by omega) (by omega)]
      rw [show (i : Int) + 1 = ((i + 1 : Nat) : Int) by omega]
      exact hend n
    · exact hc'.elim
  | cons y l ih =>
    intro x i e p hdr hc he ho
    have hi : i < L.length := by
      rcases Nat.lt_or_ge i L.length with h | h
      · exact h
      · rw [List.drop_eq_nil_iff.2 h] at hdr; simp at hdr
    have hlen : L.length = i + 1 + (l.length + 1) := by
      have := congrArg List.length hdr
      rw [List.length_drop] at this; simp at this; omega
    have hcons := List.cons.inj (hdr.symm.trans (List.drop_eq_getElem_cons hi))
    have hx : L[i] = x := hcons.1.symm
    have hdr2 : L.drop (i + 1) = y :: l := hcons.2.symm
    have hi2 : i + 1 < L.length := by omega
    have hy : L[i + 1] = y := (List.cons.inj (hdr2.symm.trans (List.drop_eq_getElem_cons hi2))).1.symm
    obtain ⟨_, hpn, _, ⟨_, hnil, _⟩ | ⟨p2, hp12, hp2n, htk, hc'⟩⟩ := hc
    · simp at hnil
    rw [bl_length] at hpn hp2n
    obtain ⟨f1, f6, f4, fk1, fk6⟩ := Lx.take_facts htk
    have hyc := hc'
    obtain ⟨hyp, hyn, hysk, _⟩ := hyc
    rw [bl_length] at hyn
    have hone : One s p2 y.pos := Lx.lex_blank (by rw [List.length_take, List.length_drop, bl_length]; omega) hysk
    have next : Ev (fun k => resolventlaw06_LexBetween.l0 k s (L.map tokS) (p2 : Int) ((i + 1 : Nat) : Int)) true := ih y (i + 1) p2 p2 hdr2 hc' hyp hone
    have hwi : wrap64 ((i : Int) + 1) = ((i + 1 : Nat) : Int) := wrap_small (by omega) (by omega)
    have h3 : (tokS x).f3 = (x.pos : Int) := rfl
    have h0 : (tokS x).f0 = (x.kind : Int) := rfl
    have hdl : ((bl s).drop x.pos).length = s.size - x.pos := by rw [List.length_drop, bl_length]
    have hdl2 : ((bl s).drop p2).length = s.size - p2 := by rw [List.length_drop, bl_length]
    have hb : (((x.kind : Int) == 7) != ((i : Int) == (L.length : Int) - 1)) = false := by
      have e1 : ((x.kind : Int) == 7) = false := by simp; omega
      have e2 : ((i : Int) == (L.length : Int) - 1) = false := by simp; omega
      rw [e1, e2]; rfl
    have start := start s hs L hL x i e hi hx hpn he ho hb
    by_cases hw : x.kind = 1 ∨ x.kind = 3 ∨ x.kind = 5
    · obtain ⟨hsp, hne⟩ := f1 hw
      have hlen2 : x.pos + x.text.length = p2 := by
        have := congrArg List.length hsp
        rw [List.length_append, hdl, hdl2] at this; omega
      have o1 : ¬ (p2 : Int) > (s.size : Int) := by omega
      have o2 : (0 : Int) ≤ (x.pos : Int) := by omega
      have o3 : (x.pos : Int) ≤ (p2 : Int) := by omega
      have o4 : (p2 : Int) ≤ (s.size : Int) := by omega
      have o5 : (x.pos : Int) + (x.text.length : Int) = (p2 : Int) := by omega
      have o6 : p2 - x.pos = x.text.length := by omega
      have o7 : wrap64 ((x.pos : Int) + (x.text.length : Int)) = (p2 : Int) := by rw [wrap_small (by omega) (by omega)]; exact o5
      have hsz : (tokS x).f1.size = x.text.length := by simp [tokS, ByteArray.size]
      have hwp : wrap64 ((x.pos : Int) + ((tokS x).f1.size : Int)) = (p2 : Int) := by rw [hsz]; exact o7
      have htx : (tokS x).f1.toList = x.text := by simp [tokS, ByteArray.toList_eq]
      have hex : (s.extract (x.pos : Int).toNat (p2 : Int).toNat).toList = (tokS x).f1.toList := by
        rw [htx, ByteArray.toList_eq]
        show bl _ = _
        rw [ext_bl, hsp, o6, List.take_left]
      refine Ev.steps 4 0 next fun n => ?_
      show resolventlaw06_LexBetween.l0 (n + 1 + 1 + 1 + 1) _ _ _ _ = _
      rw [start, decide_eq_true hw, h3]
      have := j4_word n s (L.map tokS) (x.pos : Int) (i : Int) (x.kind : Int) (x.pos : Int) (p2 : Int) (tokS x).f0 (tokS x).f2 (tokS x).f1 (tokS x).f4 hwp o1 o2 o3 o4 hex (by rw [htx]; exact hne)
      rw [this, hwi]
      rfl
    by_cases k6 : x.kind = 6
    · have hsp := f6 k6
      have hp21 : p2 = x.pos + 1 := by
        have := congrArg List.length hsp
        rw [List.length_cons, hdl, hdl2] at this; omega
      have hlt : x.pos < s.size := by omega
      obtain ⟨b, hdrop, hb⟩ := at_drop s x.pos hlt
      rw [hdrop] at hsp
      have hb46 : b = 46 := (List.cons.inj hsp).1
      have hbt : bt s (x.pos : Int) = 46 := by rw [hb, hb46]; rfl
      refine Ev.steps 4 0 next fun n => ?_
      show resolventlaw06_LexBetween.l0 (n + 1 + 1 + 1 + 1) _ _ _ _ = _
      rw [start, decide_eq_false hw, h3, show (x.kind : Int) = 6 by omega]
      have := j4_end n s (L.map tokS) (x.pos : Int) (i : Int) (x.pos : Int) (tokS x).f0 (tokS x).f2 (tokS x).f1 (tokS x).f4 (by omega) (by omega) hbt
      rw [this, hwi, show wrap64 ((x.pos : Int) + 1) = (p2 : Int) by rw [wrap_small (by omega) (by omega)]; omega]
      rfl
    by_cases k4 : x.kind = 4
    · obtain ⟨u, hsp, hall, hend⟩ := f4 k4
      have hul : x.pos + u.length = p2 := by
        have := congrArg List.length hsp
        rw [List.length_append, hdl, hdl2] at this; omega
      have hd := digits_all s hs (L.map tokS) p2 i hp2n hend (by rw [hwi]; exact next) u x.pos hall hsp hul
      refine Ev.steps 4 0 hd fun n => ?_
      show resolventlaw06_LexBetween.l0 (n + 1 + 1 + 1 + 1) _ _ _ _ = _
      rw [start, decide_eq_false hw, show (x.kind : Int) = 4 by omega, j4_int]
      rfl
    · have k2 : x.kind = 2 := by omega
      have o1 : (((i + 1 : Nat) : Nat) : Int) < (L.length : Int) := Int.ofNat_lt.2 hi2
      have o2 : (0 : Int) ≤ ((i + 1 : Nat) : Int) := Int.natCast_nonneg _
      have o3 : (y.pos : Int) ≤ (s.size : Int) := Int.ofNat_le.2 hyn
      have o5 : (x.kind : Int) = 2 := by rw [k2]; rfl
      have hwf := decide_eq_false hw
      clear hw f1 f6 f4 k6 k4 fk1 fk6 hb h0
      have hgap : (y.pos : Int) > (x.pos : Int) := by clear hwi h3 o1 o2 o5; omega
      obtain ⟨r, hr, hor, ⟨K, hK⟩⟩ := back_all s hs y.pos hyn (y.pos - (x.pos + 2)) (x.pos + 2) (by omega) (by clear hwi h3; omega) (Nat.le_refl _)
      obtain ⟨K2, hK2⟩ := ih y (i + 1) r p2 hdr2 hc' hr hor
      refine ⟨K + K2 + 4, fun n hn => ?_⟩
      obtain ⟨m, rfl⟩ : ∃ m, n = m + 1 + 1 + 1 + 1 := ⟨n - 4, by omega⟩
      have o7 : K ≤ m := by omega
      have o8 : K2 ≤ m := by omega
      have o6 : wrap64 ((x.pos : Int) + 2) = ((x.pos + 2 : Nat) : Int) := wrap_small (by omega) (by omega)
      show resolventlaw06_LexBetween.l0 (m + 1 + 1 + 1 + 1) _ _ _ _ = _
      rw [start, hwf]
      have hbk : resolventlaw06_back.f m s (y.pos : Int) (x.pos : Int) = some (r : Int) := by
        unfold resolventlaw06_back.f
        rw [o6]
        exact hK m o7
      have hy3 : (rd_T49 (L.map tokS) ((i + 1 : Nat) : Int)).f3 = (y.pos : Int) := by rw [rd49 L (i + 1) hi2, hy]; rfl
      have := j4_quote m s (L.map tokS) (x.pos : Int) (i : Int) ((i + 1 : Nat) : Int) (x.pos : Int) (r : Int) (y.pos : Int) (tokS x).f0 (tokS x).f2 (tokS x).f1 (tokS x).f4 hwi (by rw [List.length_map]; exact o1) o2 hy3 hgap o3 hbk
      rw [h3, o5, this]
      exact hK2 m o8
end Go.Proofs.YthnjdfblappkfaaDoor.Betw

namespace Go.Proofs.YthnjdfblappkfaaDoor.Pure
open Go.RowKit Go.Proofs.YthnjdfblappkfaaDoor.P Go.Proofs.YthnjdfblappkfaaDoorW.PrintWords Go.Proofs.YthnjdfblappkfaaDoorW.PrintLast
open Go Go.Proofs.YthnjdfblappkfaaDoor Betw

theorem LexBetween : resolventlaw06_LexBetween.Pure := by
  intro a0 _
  by_cases h : (a0.size : Int) > 2000
  · refine ⟨0, ?_⟩
    unfold resolventlaw06_LexBetween.f
    rw [if_pos h, wakes]; rfl
  · have hs : a0.size ≤ 2000 := by omega
    rcases hq : Lx.lex (bl a0) with ⟨q, n⟩ | l
    · obtain ⟨h1, h2⟩ := Lx.lex_err (by rw [bl_length]; omega) hq
      rw [bl_length] at h1
      refine ⟨0, ?_⟩
      unfold resolventlaw06_LexBetween.f
      rw [if_neg h, lex_o, hq, Option.bind_some, if_neg (by simp only [lxo]; omega), if_pos (show (((lxo (.error (q, n))).1.length : Nat) : Int) = 0 from rfl), if_pos (by simp only [lxo]; omega), if_pos (by simp only [lxo]; omega), wakes]
      rfl
    · have hc := Lx.lex_chain hq
      have hlast := Lx.chain_last _ _ _ hc
      have hlen := Lx.chain_len _ _ _ hc
      rw [bl_length] at hlen
      cases l with
      | nil => exact hc.elim
      | cons x l =>
        have hc0 := hc
        obtain ⟨hp, hn, hsk, _⟩ := hc0
        rw [bl_length] at hn
        have hone : One a0 0 x.pos := Lx.lex_blank (by rw [List.length_take, List.length_drop, bl_length]; omega) hsk
        obtain ⟨K, hK⟩ := loop a0 hs (x :: l) (by simp at hlen ⊢; omega) l x 0 0 0 rfl hc (by omega) hone
        refine ⟨K + 1, ?_⟩
        unfold resolventlaw06_LexBetween.f
        obtain ⟨z, hz, hzp⟩ := hlast
        rw [bl_length] at hzp
        simp at hlen
        have hll : ((lxo (.ok (x :: l))).1.length : Int) = (l.length : Int) + 1 := by simp [lxo]
        have hrd : rd_T49 (lxo (.ok (x :: l))).1 (l.length : Int) = tokS z := by
          show rd_T49 ((x :: l).map tokS) (l.length : Int) = tokS z
          rw [rd49 (x :: l) l.length (by simp)]
          rw [List.getLast?_eq_getElem?] at hz
          simp only [List.length_cons, Nat.add_sub_cancel] at hz
          rw [List.getElem?_eq_getElem (by simp)] at hz
          rw [Option.some.inj hz]
        rw [if_neg h, lex_o, hq, Option.bind_some, if_pos (show (lxo (.ok (x :: l))).2.2 = 0 from rfl), hll, if_neg (by omega), show wrap64 ((l.length : Int) + 1 - 1) = (l.length : Int) by rw [wrap_small (by omega) (by omega)]; omega, if_pos (by omega), if_pos (by omega), hrd, if_pos (show ((tokS z).f3 : Int) = (a0.size : Int) by show ((z.pos : Nat) : Int) = _; omega)]
        simp only [resolventlaw06_LexBetween.j0]
        rw [show ((lxo (.ok (x :: l))).2.1 != 0) = false from rfl, if_neg (by decide)]
        exact hK K (Nat.le_refl _)
end Go.Proofs.YthnjdfblappkfaaDoor.Pure
