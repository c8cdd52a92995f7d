import Derived.Test.YthnjdfblappkfaaDoorPresolventlaw06LexBlanksF
import Derived.Test.YthnjdfblappkfaaDoorLxCat
import Derived.Test.YthnjdfblappkfaaDoorWakes
import Derived.Test.YthnjdfblappkfaaDoorRunEq
/-!
  LexBlanks: the plain half.
-/
namespace Go.Proofs.YthnjdfblappkfaaDoor.Lx

theorem take_err {s : List UInt8} {e : Nat} (h : take s = .error e) : e = 10 := by
  cases s with
  | nil => simp [take] at h; exact h.symm
  | cons b r =>
    simp only [take] at h
    repeat' split at h
    all_goals first | (simp at h; done) | (simp at h; exact h.symm)

theorem lexF_pos (f : Nat) : ∀ p s, match lexF f p s with
    | .error (q, n) => q ≤ p + s.length ∧ (n = 10 ∨ n = 3)
    | .ok l => l.length ≤ f ∧ ∀ t ∈ l, t.pos ≤ p + s.length := by
  induction f with
  | zero => intro p s; simp [lexF]
  | succ f ih =>
    intro p s
    have hle := skip_le s
    unfold lexF
    rcases hs : skip s with ⟨s1, ok⟩
    rw [hs] at hle
    simp only at hle ⊢
    by_cases hok : ok = false
    · rw [if_pos hok]; exact ⟨by omega, .inl rfl⟩
    rw [if_neg hok]
    by_cases hn : s1 = []
    · rw [if_pos hn]
      refine ⟨by simp, fun t ht => ?_⟩
      simp at ht
      rw [ht]; simp only; omega
    rw [if_neg hn]
    rcases ht : take s1 with er | ⟨k, w, n, rest⟩
    · exact ⟨by omega, .inl (take_err ht)⟩
    · have hlt := take_lt s1 k w n rest ht
      simp only
      by_cases h32 : 32 < w.length
      · rw [if_pos h32]; exact ⟨by omega, .inr rfl⟩
      rw [if_neg h32]
      have hi := ih (p + (s.length - s1.length) + (s1.length - rest.length)) rest
      rcases hl : lexF f (p + (s.length - s1.length) + (s1.length - rest.length)) rest with ⟨q, m⟩ | l
      · rw [hl] at hi; exact ⟨by have := hi.1; omega, hi.2⟩
      · rw [hl] at hi
        refine ⟨by simp; exact hi.1, fun t ht => ?_⟩
        rcases List.mem_cons.1 ht with rfl | ht
        · simp only; omega
        · have := hi.2 t ht; omega

theorem lex_pos {s : List UInt8} (h : s.length ≤ 8192) : match lex s with
    | .error (q, n) => q ≤ s.length ∧ (n = 10 ∨ n = 3)
    | .ok l => l.length ≤ s.length + 1 ∧ ∀ t ∈ l, t.pos ≤ s.length := by
  unfold lex
  rw [if_neg (by omega)]
  have := lexF_pos (s.length + 1) 0 s
  simpa using this
end Go.Proofs.YthnjdfblappkfaaDoor.Lx

namespace Go.Proofs.YthnjdfblappkfaaDoor.Blanks
open Go.RowKit Go.Proofs.YthnjdfblappkfaaDoor.P Go.Proofs.YthnjdfblappkfaaDoorW.PrintWords Go.Proofs.YthnjdfblappkfaaDoorW.PrintLast
open Go Go.Proofs.YthnjdfblappkfaaDoor

def Ev {α : Type} (f : Nat → Option α) (r : α) : Prop := ∃ k, ∀ n, k ≤ n → f n = some r
theorem Ev.steps {α : Type} {f g : Nat → Option α} {r : α} (c a : Nat) (h : Ev g r) (e : ∀ n, f (n + c) = g (n + a)) : Ev f r := by
  obtain ⟨k, hk⟩ := h
  refine ⟨k + c, fun n hn => ?_⟩
  obtain ⟨m, rfl⟩ : ∃ m, n = m + c := ⟨n - c, by omega⟩
  rw [e]; exact hk _ (by omega)
theorem Ev.nows {α : Type} {f : Nat → Option α} {r : α} (c : Nat) (e : ∀ n, f (n + c) = some r) : Ev f r :=
  ⟨c, fun n hn => by obtain ⟨m, rfl⟩ : ∃ m, n = m + c := ⟨n - c, by omega⟩; exact e m⟩

def lxo (q : Except (Nat × Nat) (List Lx.Tok)) : List S49 × Int × Int :=
  match q with
  | .error (p, n) => ([], (p : Int), (n : Int))
  | .ok l => (l.map tokS, 0, 0)
theorem lex_o (x : ByteArray) : lex_Lex.f x = some (lxo (Lx.lex (bl x))) := by
  unfold lex_Lex.f lxo
  rcases Lx.lex (bl x) with ⟨p, n⟩ | l <;> rfl

abbrev aheadB : ByteArray := ⟨#[32, 47, 42, 32, 120, 32, 42, 47, 32, 37, 32, 121, 10, 9]⟩
theorem rd49 (l : List Lx.Tok) (i : Nat) (h : i < l.length) : rd_T49 (l.map tokS) (i : Int) = tokS l[i] := by
  unfold rd_T49
  simp [List.getD_eq_getElem?_getD, h]

theorem l1_all (x0 : ByteArray) (hx : x0.size ≤ 1000) (l us : List Lx.Tok) (hl : l ≠ []) (hll : l.length ≤ 9000) (hul : us.length ≤ 9000) (hp : ∀ t ∈ us, t.pos ≤ 8192) : ∀ d i, i + d = l.length - 1 + us.length →
    Ev (fun k => resolventlaw06_LexBlanks.l1 k x0 (l.map tokS) (us.map tokS) ((l.dropLast ++ us.map (Lx.Tok.shift (x0.size + 1))).map tokS) (i : Int)) true := by
  have hlen : 0 < l.length := List.length_pos_iff.2 hl
  have htot : (l.dropLast ++ us.map (Lx.Tok.shift (x0.size + 1))).length = l.length - 1 + us.length := by simp
  intro d
  induction d with
  | zero =>
    intro i hi
    refine Ev.nows 1 fun n => ?_
    simp only [resolventlaw06_LexBlanks.l1]
    rw [if_neg (by rw [List.length_map, htot]; omega), Pure.wakes]
    rfl
  | succ d ih =>
    intro i hi
    refine Ev.steps 1 0 (ih (i + 1) (by omega)) fun n => ?_
    have hi' : i < (l.dropLast ++ us.map (Lx.Tok.shift (x0.size + 1))).length := by omega
    have hw : wrap64 ((i : Int) + 1) = ((i + 1 : Nat) : Int) := wrap_small (by omega) (by omega)
    simp only [resolventlaw06_LexBlanks.l1]
    rw [if_pos (by rw [List.length_map, htot]; omega), rd49 _ i hi', hw]
    have hw2 : wrap64 (((l.map tokS).length : Int) - 1) = ((l.length - 1 : Nat) : Int) := by
      rw [List.length_map, wrap_small (by omega) (by omega)]; omega
    rw [hw2]
    by_cases hlt : i < l.length - 1
    · rw [if_pos (by omega), if_pos (by omega), if_pos (by rw [List.length_map]; omega), rd49 l i (by omega)]
      have e : (l.dropLast ++ us.map (Lx.Tok.shift (x0.size + 1)))[i] = l[i] := by
        rw [List.getElem_append_left (by simp; omega), List.getElem_dropLast]
      rw [e, if_neg (by simp)]
      rfl
    · have hj : i - (l.length - 1) < us.length := by omega
      have hwj : wrap64 (wrap64 ((i : Int) - ((l.map tokS).length : Int)) + 1) = ((i - (l.length - 1) : Nat) : Int) := by
        rw [List.length_map, wrap_small (i := (i : Int) - (l.length : Int)) (by omega) (by omega), wrap_small (by omega) (by omega)]; omega
      rw [if_neg (by omega), hwj, if_pos (by omega), if_pos (by rw [List.length_map]; omega), if_pos (by omega), rd49 us _ hj]
      have e : (l.dropLast ++ us.map (Lx.Tok.shift (x0.size + 1)))[i] = (us[i - (l.length - 1)]).shift (x0.size + 1) := by
        rw [List.getElem_append_right (by simp; omega)]
        simp
      rw [e]
      have hpos := hp _ (List.getElem_mem hj)
      have h3 : wrap64 (wrap64 ((tokS us[i - (l.length - 1)]).f3 + (x0.size : Int)) + 1) = (tokS ((us[i - (l.length - 1)]).shift (x0.size + 1))).f3 := by
        show wrap64 (wrap64 (((us[i - (l.length - 1)]).pos : Int) + (x0.size : Int)) + 1) = ((x0.size + 1 + (us[i - (l.length - 1)]).pos : Nat) : Int)
        rw [wrap_small (i := ((us[i - (l.length - 1)]).pos : Int) + (x0.size : Int)) (by omega) (by omega), wrap_small (by omega) (by omega)]; omega
      rw [h3, if_neg (by simp [tokS, Lx.Tok.shift])]
      rfl

/-- Behind the first loop. -/
theorem tail_all (x0 x1 : ByteArray) (h0 : x0.size ≤ 1000) (h1 : x1.size ≤ 1000) (c : List S49) (i : Int) (hi : ¬ i < ((lxo (Lx.lex (bl x1))).1.length : Int)) :
    Ev (fun k => resolventlaw06_LexBlanks.l0 k x0 x1 (lxo (Lx.lex (bl x0))).1 (lxo (Lx.lex (bl x0))).2.2 (lxo (Lx.lex (bl x1))).1 (lxo (Lx.lex (bl x1))).2.1 (lxo (Lx.lex (bl x1))).2.2 aheadB c i) true := by
  have p0 := Lx.lex_pos (s := bl x0) (by rw [bl_length]; omega)
  have p1 := Lx.lex_pos (s := bl x1) (by rw [bl_length]; omega)
  have hcat : bl ((x0 ++ (⟨#[10]⟩ : ByteArray)) ++ x1) = bl x0 ++ 10 :: bl x1 := by simp
  rcases hs : Lx.lex (bl x0) with ⟨p, n⟩ | l
  · rw [hs] at p0
    refine Ev.nows 1 fun m => ?_
    simp only [resolventlaw06_LexBlanks.l0]
    rw [if_neg hi, if_neg (by simp only [lxo]; have := p0.2; omega), Pure.wakes]
    rfl
  · rw [hs] at p0
    have hap := Lx.lex_app (bl x1) (by rw [bl_length]; exact h0) (by rw [bl_length]; exact h1) hs
    have start : ∀ m, resolventlaw06_LexBlanks.l0 (m + 1) x0 x1 (lxo (.ok l)).1 (lxo (.ok l)).2.2 (lxo (Lx.lex (bl x1))).1 (lxo (Lx.lex (bl x1))).2.1 (lxo (Lx.lex (bl x1))).2.2 aheadB c i = resolventlaw06_LexBlanks.j3 m x0 (l.map tokS) (lxo (Lx.lex (bl x1))).1 (lxo (Lx.lex (bl x1))).2.2 (lxo (Lx.both (x0.size + 1) l (Lx.lex (bl x1)))).1 false := by
      intro m
      simp only [resolventlaw06_LexBlanks.l0]
      have e2 : (x0 ++ (⟨#[10]⟩ : ByteArray)).size = x0.size + 1 := by
        have := congrArg List.length (show bl (x0 ++ (⟨#[10]⟩ : ByteArray)) = bl x0 ++ [10] by simp)
        rw [bl_length] at this
        rw [this]; simp
      rw [if_neg hi, if_pos (show (lxo (.ok l)).2.2 = 0 from rfl), if_pos (by omega), if_pos (by rw [e2]; omega), lex_o, hcat, hap, Option.bind_some, bl_length]
      rcases ht : Lx.lex (bl x1) with ⟨q, z⟩ | us
      · rw [ht] at p1
        rw [if_pos (show (lxo (Lx.both (x0.size + 1) l (.error (q, z)))).2.2 = (lxo (.error (q, z))).2.2 from rfl), if_neg (by simp only [lxo]; have := p1.2; omega)]
        have hq := p1.1
        rw [bl_length] at hq
        have e : wrap64 (wrap64 ((x0.size : Int) + 1) + (lxo (.error (q, z))).2.1) = (lxo (Lx.both (x0.size + 1) l (.error (q, z)))).2.1 := by
          show wrap64 (wrap64 ((x0.size : Int) + 1) + (q : Int)) = ((x0.size + 1 + q : Nat) : Int)
          rw [wrap_small (i := (x0.size : Int) + 1) (by omega) (by omega), wrap_small (by omega) (by omega)]; omega
        rw [e, bne_self_eq_false]
        rfl
      · rw [if_pos (show (lxo (Lx.both (x0.size + 1) l (.ok us))).2.2 = (lxo (.ok us)).2.2 from rfl), if_pos (show (lxo (.ok us)).2.2 = 0 from rfl)]
        rfl
    rcases ht : Lx.lex (bl x1) with ⟨q, z⟩ | us
    · rw [ht] at p1 start
      refine Ev.nows 2 fun m => ?_
      show resolventlaw06_LexBlanks.l0 (m + 1 + 1) _ _ _ _ _ _ _ _ _ _ = _
      rw [start]
      simp only [resolventlaw06_LexBlanks.j3]
      rw [if_neg (by decide), if_neg (by simp only [lxo]; have := p1.2; omega), Pure.wakes]
      rfl
    · rw [ht] at p1 start
      have hlen := Lx.lex_ne hs
      have h9 : l.length ≤ 9000 := by have := p0.1; rw [bl_length] at this; omega
      have h9u : us.length ≤ 9000 := by have := p1.1; rw [bl_length] at this; omega
      have hl := l1_all x0 h0 l us hlen h9 h9u (fun t ht => by have := p1.2 t ht; rw [bl_length] at this; omega) (l.length - 1 + us.length) 0 (by omega)
      refine Ev.steps 3 0 hl fun m => ?_
      show resolventlaw06_LexBlanks.l0 (m + 1 + 1 + 1) _ _ _ _ _ _ _ _ _ _ = _
      rw [start]
      have hpos : 0 < l.length := List.length_pos_iff.2 hlen
      have e : wrap64 (wrap64 (((l.map tokS).length : Int) + (((lxo (.ok us)).1).length : Int)) - 1) = (((lxo (Lx.both (x0.size + 1) l (.ok us))).1).length : Int) := by
        show wrap64 (wrap64 (((l.map tokS).length : Int) + ((us.map tokS).length : Int)) - 1) = ((((l.dropLast ++ us.map (Lx.Tok.shift (x0.size + 1))).map tokS).length : Nat) : Int)
        simp only [List.length_map, List.length_append, List.length_dropLast]
        rw [wrap_small (i := (l.length : Int) + (us.length : Int)) (by omega) (by omega), wrap_small (by omega) (by omega)]; omega
      simp only [resolventlaw06_LexBlanks.j3, resolventlaw06_LexBlanks.j4]
      rw [if_neg (by decide), if_pos (show (lxo (.ok us)).2.2 = 0 from rfl), if_neg (by rw [List.length_map]; omega), e, bne_self_eq_false, if_neg (by decide)]
      rfl

theorem l0_all (x0 x1 : ByteArray) (h0 : x0.size ≤ 1000) (h1 : x1.size ≤ 1000) : ∀ d i, i + d = (lxo (Lx.lex (bl x1))).1.length →
    Ev (fun k => resolventlaw06_LexBlanks.l0 k x0 x1 (lxo (Lx.lex (bl x0))).1 (lxo (Lx.lex (bl x0))).2.2 (lxo (Lx.lex (bl x1))).1 (lxo (Lx.lex (bl x1))).2.1 (lxo (Lx.lex (bl x1))).2.2 aheadB (lxo (Lx.shiftR 14 (Lx.lex (bl x1)))).1 (i : Int)) true := by
  have p1 := Lx.lex_pos (s := bl x1) (by rw [bl_length]; omega)
  intro d
  induction d with
  | zero =>
    intro i hi
    exact tail_all x0 x1 h0 h1 _ _ (by omega)
  | succ d ih =>
    intro i hi
    refine Ev.steps 1 0 (ih (i + 1) (by omega)) fun n => ?_
    rcases ht : Lx.lex (bl x1) with ⟨q, z⟩ | us
    · rw [ht] at hi; simp [lxo] at hi
    · rw [ht] at hi p1
      have hiu : i < us.length := by simp [lxo] at hi; omega
      have h9 := p1.1
      rw [bl_length] at h9
      simp only [resolventlaw06_LexBlanks.l0]
      have e1 : (lxo (.ok us)).1 = us.map tokS := rfl
      have e2 : (lxo (Lx.shiftR 14 (.ok us))).1 = (us.map (Lx.Tok.shift 14)).map tokS := rfl
      have hpos := p1.2 _ (List.getElem_mem hiu)
      rw [bl_length] at hpos
      rw [e1, e2, if_pos (by simp; omega), if_pos (by omega), if_pos (by simp; omega), rd49 us i hiu, rd49 (us.map (Lx.Tok.shift 14)) i (by simpa using hiu), List.getElem_map]
      have h3 : wrap64 ((tokS us[i]).f3 + (aheadB.size : Int)) = (tokS (us[i].shift 14)).f3 := by
        show wrap64 ((us[i].pos : Int) + 14) = ((14 + us[i].pos : Nat) : Int)
        rw [wrap_small (by omega) (by omega)]; omega
      rw [h3, if_neg (by simp [tokS, Lx.Tok.shift]), wrap_small (by omega) (by omega)]
      rfl

theorem j0_ok (x0 x1 : ByteArray) (h0 : x0.size ≤ 1000) (h1 : x1.size ≤ 1000) : Ev (fun k => resolventlaw06_LexBlanks.j0 k x0 x1 false) true := by
  have p1 := Lx.lex_pos (s := bl x1) (by rw [bl_length]; omega)
  have hl := l0_all x0 x1 h0 h1 (lxo (Lx.lex (bl x1))).1.length 0 (by omega)
  refine Ev.steps 2 0 hl fun n => ?_
  show resolventlaw06_LexBlanks.j0 (n + 1 + 1) _ _ _ = _
  have hah : bl (aheadB ++ x1) = Lx.ahead ++ bl x1 := by simp [Lx.ahead]
  have hx := Lx.lex_ahead (bl x1) (by rw [bl_length]; exact h1)
  simp only [resolventlaw06_LexBlanks.j0]
  rw [if_neg (by decide), lex_o x0, Option.bind_some, lex_o x1, Option.bind_some, if_pos (by omega), lex_o (aheadB ++ x1), hah, hx, Option.bind_some]
  rcases ht : Lx.lex (bl x1) with ⟨q, z⟩ | us
  · rw [ht] at p1
    have hq := p1.1
    rw [bl_length] at hq
    have e : wrap64 ((lxo (.error (q, z))).2.1 + 14) = (lxo (Lx.shiftR 14 (.error (q, z)))).2.1 := by
      show wrap64 ((q : Int) + 14) = ((14 + q : Nat) : Int)
      rw [wrap_small (by omega) (by omega)]; omega
    rw [if_pos (show (lxo (Lx.shiftR 14 (.error (q, z)))).2.2 = (lxo (.error (q, z))).2.2 from rfl), if_pos (show (((lxo (Lx.shiftR 14 (.error (q, z)))).1.length : Nat) : Int) = (((lxo (.error (q, z))).1.length : Nat) : Int) from rfl), if_neg (by simp only [lxo]; have := p1.2; omega), e, bne_self_eq_false]
    simp only [resolventlaw06_LexBlanks.j1]
    rw [if_neg (by decide)]
    rfl
  · rw [if_pos (show (lxo (Lx.shiftR 14 (.ok us))).2.2 = (lxo (.ok us)).2.2 from rfl), if_pos (show (((lxo (Lx.shiftR 14 (.ok us))).1.length : Nat) : Int) = (((lxo (.ok us)).1.length : Nat) : Int) by simp [lxo, Lx.shiftR]), if_pos (show (lxo (.ok us)).2.2 = 0 from rfl)]
    simp only [resolventlaw06_LexBlanks.j1]
    rw [if_neg (by decide)]
    rfl
end Go.Proofs.YthnjdfblappkfaaDoor.Blanks

namespace Go.Proofs.YthnjdfblappkfaaDoor.Pure
open Go.RowKit Go.Proofs.YthnjdfblappkfaaDoor.P Go.Proofs.YthnjdfblappkfaaDoorW.PrintWords Go.Proofs.YthnjdfblappkfaaDoorW.PrintLast
open Go Go.Proofs.YthnjdfblappkfaaDoor

theorem LexBlanks : resolventlaw06_LexBlanks.Pure := by
  intro a0 a1 _ _
  have big : ∀ k, resolventlaw06_LexBlanks.j0 (k + 1) a0 a1 true = some true := by
    intro k
    simp only [resolventlaw06_LexBlanks.j0]
    rw [if_pos trivial, wakes]; rfl
  by_cases h : (a0.size : Int) > 1000
  · refine ⟨1, ?_⟩
    unfold resolventlaw06_LexBlanks.f
    rw [if_pos h]; exact big 0
  · by_cases h2 : (a1.size : Int) > 1000
    · refine ⟨1, ?_⟩
      unfold resolventlaw06_LexBlanks.f
      rw [if_neg h, decide_eq_true h2]; exact big 0
    · obtain ⟨K, hK⟩ := Blanks.j0_ok a0 a1 (by omega) (by omega)
      refine ⟨K, ?_⟩
      unfold resolventlaw06_LexBlanks.f
      rw [if_neg h, decide_eq_false h2]
      exact hK K (Nat.le_refl _)
end Go.Proofs.YthnjdfblappkfaaDoor.Pure
