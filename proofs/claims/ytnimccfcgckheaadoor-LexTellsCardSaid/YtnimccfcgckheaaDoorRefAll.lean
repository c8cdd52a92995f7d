/- Several small texts of this claim in one. -/
import Derived.Test.YtnimccfcgckheaaDoorRefParts
import Derived.Test.YtnimccfcgckheaaDoorPresolventref06take
import Derived.Test.YtnimccfcgckheaaDoorRunEq
import Derived.Test.YtnimccfcgckheaaDoorLx2
import Derived.Test.YtnimccfcgckheaaDoorRuleCall
import Derived.IntWalk
/-
  The document's lexer (resolventref06), its small parts: on bytes they are the plain lexer's sets; skipping is the plain lexer's.
-/
namespace Go.Proofs.YtnimccfcgckheaaDoor.Ref
open Go.RowKit Go.Proofs.YtnimccfcgckheaaDoor.P Go.Proofs.YtnimccfcgckheaaDoorW.PrintWords Go.Proofs.YtnimccfcgckheaaDoorW.PrintLast
open Go Go.Proofs.YtnimccfcgckheaaDoor

/-- From some number of rounds on. -/
def Ev {α : Type} (f : Nat → Option α) (r : α) : Prop := ∃ k, ∀ n, k ≤ n → f n = some r
theorem Ev.step {α : Type} {f g : Nat → Option α} {r : α} (h : Ev g r) (e : ∀ n, f (n + 1) = g n) : Ev f r := by
  obtain ⟨k, hk⟩ := h
  refine ⟨k + 1, fun n hn => ?_⟩
  obtain ⟨m, rfl⟩ : ∃ m, n = m + 1 := ⟨n - 1, by omega⟩
  rw [e]; exact hk m (by omega)
theorem Ev.now {α : Type} {f : Nat → Option α} {r : α} (e : ∀ n, f (n + 1) = some r) : Ev f r :=
  ⟨1, fun n hn => by obtain ⟨m, rfl⟩ : ∃ m, n = m + 1 := ⟨n - 1, by omega⟩; exact e m⟩
theorem Ev.cong {α : Type} {f : Nat → Option α} {r r' : α} (h : Ev f r) (e : r = r') : Ev f r' := e ▸ h
theorem Ev.bind {α β : Type} {f : Nat → Option α} {r : α} {g : Nat → α → Option β} {s : β} (h : Ev f r) (h2 : Ev (fun k => g k r) s) : Ev (fun k => (f k).bind (g k)) s := by
  obtain ⟨k1, h1⟩ := h
  obtain ⟨k2, h2⟩ := h2
  refine ⟨max k1 k2, fun n hn => ?_⟩
  show (f n).bind (g n) = some s
  rw [h1 n (by omega)]; exact h2 n (by omega)

theorem byteAll (q : UInt8 → Bool) (h : (List.range 256).all (fun n => q (UInt8.ofNat n)) = true) (b : UInt8) : q b = true := by
  have := List.all_eq_true.1 h b.toNat (List.mem_range.2 b.toNat_lt)
  simpa using this

theorem blank_f (b : UInt8) : resolventref06_Blank.f (b.toNat : Int) = some (Lx.blankB b) := by
  have := byteAll (fun b => decide (resolventref06_Blank.f (b.toNat : Int) = some (Lx.blankB b))) (by kernel_rfl) b
  simpa using this
theorem digit_f (b : UInt8) : resolventref06_Digit.f (b.toNat : Int) = some (Lx.digitB b) := by
  have := byteAll (fun b => decide (resolventref06_Digit.f (b.toNat : Int) = some (Lx.digitB b))) (by kernel_rfl) b
  simpa using this
theorem lower_f (b : UInt8) : resolventref06_Lower.f (b.toNat : Int) = some (Lx.lowerB b) := by
  have := byteAll (fun b => decide (resolventref06_Lower.f (b.toNat : Int) = some (Lx.lowerB b))) (by kernel_rfl) b
  simpa using this
theorem letter_f (b : UInt8) : resolventref06_Letter.f (b.toNat : Int) = some (Lx.letterB b) := by
  have := byteAll (fun b => decide (resolventref06_Letter.f (b.toNat : Int) = some (Lx.letterB b))) (by kernel_rfl) b
  simpa using this
theorem up {α : Type} {f : Nat → Option α} (m : ∀ k, LeO (f k) (f (k + 1))) {k : Nat} {r : α} (h : f k = some r) : ∀ n, k ≤ n → f n = some r := by
  intro n hn
  obtain ⟨j, rfl⟩ : ∃ j, n = k + j := ⟨n - k, by omega⟩
  exact more_rounds m k j r h
theorem symbol_f (b : UInt8) : ∀ n, 20 ≤ n → resolventref06_Symbol.f n (b.toNat : Int) = some (Lx.symbolB b) := by
  have := byteAll (fun b => decide (resolventref06_Symbol.f 20 (b.toNat : Int) = some (Lx.symbolB b))) (by kernel_rfl) b
  exact up (fun k => resolventref06_Symbol.mono _ k) (by simpa using this)
theorem sign_f (b : UInt8) : ∀ n, 10 ≤ n → resolventref06_in.f n (b.toNat : Int) (⟨#[40, 41, 91, 93, 44, 124]⟩ : ByteArray) = some (Lx.signB b) := by
  have := byteAll (fun b => decide (resolventref06_in.f 10 (b.toNat : Int) (⟨#[40, 41, 91, 93, 44, 124]⟩ : ByteArray) = some (Lx.signB b))) (by kernel_rfl) b
  exact up (fun k => resolventref06_in.mono _ _ k) (by simpa using this)

theorem at_drop (x : ByteArray) (i : Nat) (h : i < x.size) : ∃ b, (bl x).drop i = b :: (bl x).drop (i + 1) ∧ bt x (i : Int) = (b.toNat : Int) := by
  refine ⟨x[i], ?_, ?_⟩
  · have := List.drop_eq_getElem_cons (l := bl x) (i := i) (by rw [bl_length]; exact h)
    rw [this]; rfl
  · unfold bt
    rw [dif_pos (by simpa using h)]; rfl
theorem drop_end (x : ByteArray) (i : Nat) (h : x.size ≤ i) : (bl x).drop i = [] := by
  rw [List.drop_eq_nil_iff, bl_length]; exact h
theorem drop_len (x : ByteArray) (i : Nat) : ((bl x).drop i).length = x.size - i := by rw [List.length_drop, bl_length]

theorem bn {b : UInt8} {z : Int} (h : (b.toNat : Int) = z) (c : UInt8) (hz : z = (c.toNat : Int)) : b = c :=
  UInt8.toNat.inj (by omega)
theorem nb {b c : UInt8} (h : b ≠ c) (z : Int) (hz : z = (c.toNat : Int)) : ¬ ((b.toNat : Int) = z) := fun e => h (bn e c hz)

/-- Where skipping stops, as the document's skip tells it. -/
def res (n : Nat) (q : List UInt8 × Bool) : Int := if q.2 = true then (n : Int) - q.1.length else -((n : Int) - q.1.length) - 1

theorem skip_all (x : ByteArray) (hx : x.size ≤ 8192) : ∀ d i, i ≤ x.size → x.size - i ≤ d →
    Ev (fun k => resolventref06_skip.l0 k x (i : Int)) (res x.size (Lx.skipM .n ((bl x).drop i))) ∧
    Ev (fun k => resolventref06_skip.l1 k x (i : Int)) (res x.size (Lx.skipM .l ((bl x).drop i))) ∧
    ∀ p, p ≤ x.size → Ev (fun k => resolventref06_skip.l2 k x (p : Int) (i : Int)) (res x.size (Lx.skipM (.c ((bl x).drop p)) ((bl x).drop i))) := by
  intro d
  induction d with
  | zero =>
    intro i hi hd
    have e : i = x.size := by omega
    subst e
    rw [drop_end x _ (Nat.le_refl _)]
    have h0 : Ev (fun k => resolventref06_skip.l0 k x (x.size : Int)) (res x.size ([], true)) := by
      refine Ev.now fun n => ?_
      simp only [resolventref06_skip.l0]
      rw [if_neg (by omega)]
      simp [res]
    refine ⟨h0, Ev.step h0 fun n => ?_, fun p hp => Ev.now fun n => ?_⟩
    · simp only [resolventref06_skip.l1]
      rw [if_neg (by omega)]
    · simp only [resolventref06_skip.l2]
      rw [wrap_small (by omega) (by omega), if_neg (by omega), if_pos (by omega), wrap_small (i := -(p : Int)) (by omega) (by omega), wrap_small (i := -(p : Int) - 1) (by omega) (by omega)]
      simp only [res, Lx.skipM, drop_len]
      simp
      omega
  | succ d ih =>
    intro i hi hd
    by_cases he : i = x.size
    · subst he
      exact ih x.size (Nat.le_refl _) (by omega)
    have hlt : i < x.size := by omega
    obtain ⟨b, hdrop, hb⟩ := at_drop x i hlt
    obtain ⟨i0, i1, i2⟩ := ih (i + 1) (by omega) (by omega)
    rw [hdrop]
    have hw1 : wrap64 ((i : Int) + 1) = ((i + 1 : Nat) : Int) := wrap_small (by omega) (by omega)
    have hA : Ev (fun k => resolventref06_skip.l0 k x (i : Int)) (res x.size (Lx.skipM .n (b :: (bl x).drop (i + 1)))) := by
      simp only [Lx.skipM]
      by_cases h1 : Lx.blankB b = true
      · rw [if_pos h1]
        refine Ev.step i0 fun n => ?_
        simp only [resolventref06_skip.l0]
        rw [if_pos (by omega), if_pos (by omega), hb, blank_f, h1, hw1]
        rfl
      · rw [if_neg h1]
        have h1' : Lx.blankB b = false := by simpa using h1
        by_cases h2 : b = 37
        · rw [if_pos h2]
          have : Ev (fun k => resolventref06_skip.l1 k x (i : Int)) (res x.size (Lx.skipM .l ((bl x).drop (i + 1)))) := by
            refine Ev.step i1 fun n => ?_
            simp only [resolventref06_skip.l1]
            rw [if_pos (by omega), if_pos (by omega), hb, if_neg (by rw [h2]; decide), hw1]
          refine Ev.step this fun n => ?_
          simp only [resolventref06_skip.l0]
          rw [if_pos (by omega), if_pos (by omega), hb, blank_f, h1', h2]
          rfl
        · rw [if_neg h2]
          have h2i : ¬ ((b.toNat : Int) = 37) := nb h2 37 rfl
          by_cases h3 : b = 47 ∧ ((bl x).drop (i + 1)).head? = some 42
          · rw [if_pos h3]
            obtain ⟨h3, h4⟩ := h3
            have hlt2 : i + 1 < x.size := by
              rcases Nat.lt_or_ge (i + 1) x.size with h | h
              · exact h
              · rw [drop_end x _ h] at h4; simp at h4
            obtain ⟨c, hdrop2, hc⟩ := at_drop x (i + 1) hlt2
            rw [hdrop2] at h4 ⊢
            simp at h4
            subst h4
            simp only [Lx.skipM]
            have hC := (ih (i + 1 + 1) (by omega) (by omega)).2.2 i (by omega)
            rw [hdrop, hdrop2] at hC
            have hj : Ev (fun k => resolventref06_skip.j2 k x (i : Int) true) (res x.size (Lx.skipM (.c (b :: 42 :: (bl x).drop (i + 1 + 1))) ((bl x).drop (i + 1 + 1)))) := by
              refine Ev.step hC fun n => ?_
              simp only [resolventref06_skip.j2]
              rw [if_pos trivial, show wrap64 ((i : Int) + 2) = ((i + 1 + 1 : Nat) : Int) from wrap_small (by omega) (by omega)]
            refine Ev.step hj fun n => ?_
            simp only [resolventref06_skip.l0]
            rw [if_pos (by omega), if_pos (by omega), hb, blank_f, h1']
            simp only [Option.bind_some]
            rw [if_neg (by decide), if_neg h2i, if_pos (by rw [h3]; decide), hw1, if_pos (by omega), if_pos (by omega), hc]
            rfl
          · rw [if_neg h3]
            have hfin : Ev (fun k => resolventref06_skip.j2 k x (i : Int) false) (res x.size (b :: (bl x).drop (i + 1), true)) := by
              refine Ev.now fun n => ?_
              simp only [resolventref06_skip.j2]
              rw [if_neg (by decide), ← hdrop]
              simp only [res, drop_len]
              simp
              omega
            refine Ev.step hfin fun n => ?_
            simp only [resolventref06_skip.l0]
            rw [if_pos (by omega), if_pos (by omega), hb, blank_f, h1']
            simp only [Option.bind_some]
            rw [if_neg (by decide), if_neg h2i]
            by_cases h47 : b = 47
            · rw [if_pos (by rw [h47]; decide), hw1]
              by_cases hlt2 : i + 1 < x.size
              · obtain ⟨c, hdrop2, hc⟩ := at_drop x (i + 1) hlt2
                rw [hdrop2] at h3
                have h42 : ¬ ((c.toNat : Int) = 42) := fun h => h3 ⟨h47, by rw [bn h 42 rfl]; rfl⟩
                rw [if_pos (by omega), if_pos (by omega), hc, show (((c.toNat : Int)) == 42) = false by simpa using h42]
              · rw [if_neg (by omega)]
            · rw [if_neg (nb h47 47 rfl)]
    refine ⟨hA, ?_, ?_⟩
    · by_cases h1 : b = 10
      · subst h1
        refine Ev.step (Ev.cong hA ?_) fun n => ?_
        · congr 1
        · simp only [resolventref06_skip.l1]
          rw [if_pos (by omega), if_pos (by omega), hb]
          rfl
      · simp only [Lx.skipM]
        rw [if_neg h1]
        refine Ev.step i1 fun n => ?_
        simp only [resolventref06_skip.l1]
        rw [if_pos (by omega), if_pos (by omega), hb, if_neg (nb h1 10 rfl), hw1]
    · intro p hp
      simp only [Lx.skipM]
      by_cases hlt2 : i + 1 < x.size
      · obtain ⟨c, hdrop2, hc⟩ := at_drop x (i + 1) hlt2
        by_cases h : b = 42 ∧ ((bl x).drop (i + 1)).head? = some 47
        · rw [if_pos h]
          obtain ⟨hb42, hc47⟩ := h
          rw [hdrop2] at hc47 ⊢
          simp at hc47
          subst hc47
          simp only [Lx.skipM]
          have h0 := (ih (i + 1 + 1) (by omega) (by omega)).1
          refine Ev.step h0 fun n => ?_
          simp only [resolventref06_skip.l2]
          rw [hw1, if_pos (by omega), if_pos (by omega), if_pos (by omega), hb, if_pos (by rw [hb42]; decide), if_pos (by omega), hc, if_pos (by decide), if_neg (by omega), show wrap64 ((i : Int) + 2) = ((i + 1 + 1 : Nat) : Int) from wrap_small (by omega) (by omega)]
        · rw [if_neg h]
          refine Ev.step (i2 p hp) fun n => ?_
          simp only [resolventref06_skip.l2]
          rw [hw1, if_pos (by omega), if_pos (by omega), if_pos (by omega), hb]
          by_cases hb42 : b = 42
          · have h47 : ¬ ((c.toNat : Int) = 47) := fun h' => h ⟨hb42, by rw [hdrop2, bn h' 47 rfl]; rfl⟩
            rw [if_pos (by rw [hb42]; decide), if_pos (by omega), hc, if_neg h47]
          · rw [if_neg (nb hb42 42 rfl)]
      · have hd2 := drop_end x (i + 1) (by omega)
        rw [hd2]
        have : ¬ (b = 42 ∧ ([] : List UInt8).head? = some 47) := by simp
        rw [if_neg this]
        simp only [Lx.skipM]
        refine Ev.now fun n => ?_
        simp only [resolventref06_skip.l2]
        rw [hw1, if_neg (by omega), if_pos (by omega), wrap_small (i := -(p : Int)) (by omega) (by omega), wrap_small (i := -(p : Int) - 1) (by omega) (by omega)]
        simp only [res, drop_len]
        simp
        omega

theorem skip_f (x : ByteArray) (hx : x.size ≤ 8192) (i : Nat) (hi : i ≤ x.size) : Ev (fun k => resolventref06_skip.f k x (i : Int)) (res x.size (Lx.skip ((bl x).drop i))) :=
  (skip_all x hx (x.size - i) i hi (Nat.le_refl _)).1

end Go.Proofs.YtnimccfcgckheaaDoor.Ref
/-
  The document's lexer, quoted text: the plain lexer's.
-/
namespace Go.Proofs.YtnimccfcgckheaaDoor.Ref
open Go.RowKit Go.Proofs.YtnimccfcgckheaaDoor.P Go.Proofs.YtnimccfcgckheaaDoorW.PrintWords Go.Proofs.YtnimccfcgckheaaDoorW.PrintLast
open Go Go.Proofs.YtnimccfcgckheaaDoor

theorem Ev.steps {α : Type} {f g : Nat → Option α} {r : α} (c a : Nat) (h : Ev g r) (e : ∀ n, f (n + c) = g (n + a)) : Ev f r := by
  obtain ⟨k, hk⟩ := h
  refine ⟨k + c, fun n hn => ?_⟩
  obtain ⟨m, rfl⟩ : ∃ m, n = m + c := ⟨n - c, by omega⟩
  rw [e]; exact hk _ (by omega)
theorem Ev.nows {α : Type} {f : Nat → Option α} {r : α} (c : Nat) (e : ∀ n, f (n + c) = some r) : Ev f r :=
  ⟨c, fun n hn => by obtain ⟨m, rfl⟩ : ∃ m, n = m + c := ⟨n - c, by omega⟩; exact e m⟩

def mk (l : List UInt8) : ByteArray := ⟨l.toArray⟩
theorem mk_size (l : List UInt8) : (mk l).size = l.length := by simp [mk, ByteArray.size]
theorem bl_mk (l : List UInt8) : bl (mk l) = l := by simp [mk]
theorem mk_app (l m : List UInt8) : mk l ++ mk m = mk (l ++ m) := by
  apply bl_ext
  simp [mk]
theorem nums_one (b : UInt8) : strOfNums [(b.toNat : Int)] = mk [b] := by
  have := byteAll (fun b => decide (bl (strOfNums [(b.toNat : Int)]) = [b])) (by kernel_rfl) b
  exact bl_ext (by rw [bl_mk]; simpa using this)

def qres (n : Nat) : Option (List UInt8 × List UInt8) → ByteArray × Int × Int
  | some (t, rest) => (mk t, (n : Int) - rest.length, 0)
  | none => (mk [], 0, 10)

theorem quoted_all (x : ByteArray) (hx : x.size ≤ 8192) : ∀ d i, i ≤ x.size → x.size - i ≤ d → ∀ out : List UInt8, out.length ≤ i →
    Ev (fun k => resolventref06_quoted.l0 k x (mk out) (i : Int)) (qres x.size (Lx.quotedM out ((bl x).drop i))) := by
  intro d
  induction d with
  | zero =>
    intro i hi hd out ho
    rw [drop_end x i (by omega)]
    refine Ev.now fun n => ?_
    simp only [resolventref06_quoted.l0]
    rw [if_neg (by omega)]
    simp [qres, Lx.quotedM, mk]
  | succ d ih =>
    intro i hi hd out ho
    by_cases he : i = x.size
    · exact ih i hi (by omega) out ho
    have hlt : i < x.size := by omega
    obtain ⟨b, hdrop, hb⟩ := at_drop x i hlt
    rw [hdrop]
    have hw1 : wrap64 ((i : Int) + 1) = ((i + 1 : Nat) : Int) := wrap_small (by omega) (by omega)
    have hw2 : wrap64 ((i : Int) + 2) = ((i + 1 + 1 : Nat) : Int) := wrap_small (by omega) (by omega)
    have hsz : (mk out).size ≤ 8192 := by rw [mk_size]; omega
    -- the last way: a byte as it is
    have last : ∀ (h39 : b ≠ 39) (h92 : b ≠ 92), Ev (fun k => resolventref06_quoted.j5 k x (mk out) (i : Int) (b.toNat : Int) false) (qres x.size (Lx.quotedM out (b :: (bl x).drop (i + 1)))) := by
      intro h39 h92
      unfold Lx.quotedM
      rw [if_neg h39, if_neg h92]
      by_cases h : b < 32 ∨ 126 < b
      · rw [if_pos h]
        refine Ev.now fun n => ?_
        simp only [resolventref06_quoted.j5]
        rw [if_neg (by decide), if_neg (nb h92 92 rfl)]
        by_cases h1 : (b.toNat : Int) < 32
        · rw [if_pos h1]; rfl
        · rw [if_neg h1]
          have h2 : (b.toNat : Int) > 126 := by
            rcases h with h | h
            · have := UInt8.lt_iff_toNat_lt.1 h
              have e : (32 : UInt8).toNat = 32 := rfl
              omega
            · have := UInt8.lt_iff_toNat_lt.1 h
              have e : (126 : UInt8).toNat = 126 := rfl
              omega
          rw [if_pos h2]; rfl
      · rw [if_neg h]
        have h1 : ¬ (b.toNat : Int) < 32 := fun g => h (.inl (UInt8.lt_iff_toNat_lt.2 (by have e : (32 : UInt8).toNat = 32 := rfl; omega)))
        have h2 : ¬ (b.toNat : Int) > 126 := fun g => h (.inr (UInt8.lt_iff_toNat_lt.2 (by have e : (126 : UInt8).toNat = 126 := rfl; omega)))
        refine Ev.step (ih (i + 1) (by omega) (by omega) (out ++ [b]) (by simp; omega)) fun n => ?_
        simp only [resolventref06_quoted.j5]
        rw [if_neg (by decide), if_neg (nb h92 92 rfl), if_neg h1, if_neg h2, Option.bind_some, nums_one, if_pos (by rw [mk_size [b]]; simp; omega), mk_app, hw1]
    by_cases hlt2 : i + 1 < x.size
    · obtain ⟨c, hdrop2, hc⟩ := at_drop x (i + 1) hlt2
      have start : ∀ n, resolventref06_quoted.l0 (n + 1) x (mk out) (i : Int) = resolventref06_quoted.j1 n x (mk out) (i : Int) (b.toNat : Int) (c.toNat : Int) := by
        intro n
        simp only [resolventref06_quoted.l0]
        rw [if_pos (by omega), if_pos (by omega), hw1, if_pos (by omega), if_pos (by omega), hb, hc]
      have nxt : ∀ e : UInt8, Ev (fun k => resolventref06_quoted.l0 k x (mk (out ++ [e])) ((i + 1 + 1 : Nat) : Int)) (qres x.size (Lx.quotedM (out ++ [e]) ((bl x).drop (i + 1 + 1)))) :=
        fun e => ih (i + 1 + 1) (by omega) (by omega) (out ++ [e]) (by simp; omega)
      have ap : ∀ e : UInt8, (mk out).size + (mk [e]).size ≤ 9223372036854775807 := fun e => by rw [mk_size [e]]; simp; omega
      by_cases h39 : b = 39
      · subst h39
        rw [hdrop2]
        unfold Lx.quotedM
        rw [if_pos rfl]
        simp only
        by_cases hc39 : c = 39
        · subst hc39
          rw [if_pos rfl]
          refine Ev.steps 3 0 (nxt 39) fun n => ?_
          show resolventref06_quoted.l0 (n + 2 + 1) _ _ _ = _
          rw [start]
          simp only [resolventref06_quoted.j1, resolventref06_quoted.j2]
          rw [if_pos (by decide), if_pos (by decide), if_pos (by omega), hw2, ← mk_app]
          rfl
        · rw [if_neg hc39]
          refine Ev.nows 3 fun n => ?_
          show resolventref06_quoted.l0 (n + 2 + 1) _ _ _ = _
          rw [start]
          simp only [resolventref06_quoted.j1, resolventref06_quoted.j2]
          rw [if_pos (by decide), show ((c.toNat : Int) == 39) = false by simpa using nb hc39 39 rfl, if_neg (by decide), if_pos (by decide), hw1, ← hdrop2]
          simp only [qres, drop_len]
          have : ((i + 1 : Nat) : Int) = (x.size : Int) - ((x.size - (i + 1) : Nat) : Int) := by omega
          rw [this]
      · by_cases h92 : b = 92
        · subst h92
          rw [hdrop2]
          unfold Lx.quotedM
          rw [if_neg h39, if_pos rfl]
          simp only
          have s3 : ∀ n, resolventref06_quoted.l0 (n + 2 + 1) x (mk out) (i : Int) = resolventref06_quoted.j3 n x (mk out) (i : Int) 92 (c.toNat : Int) (decide (c = 92) || decide (c = 39)) := by
            intro n
            rw [start]
            simp only [resolventref06_quoted.j1, resolventref06_quoted.j2]
            rw [if_neg (by decide), if_neg (by decide), if_neg (by decide), if_pos (by decide)]
            by_cases k92 : c = 92
            · subst k92; rw [if_pos (by decide)]; rfl
            · rw [if_neg (nb k92 92 rfl)]
              by_cases k39 : c = 39
              · subst k39; rfl
              · rw [show ((c.toNat : Int) == 39) = false by simpa using nb k39 39 rfl]; simp [k92, k39]
          have j3t : ∀ n, resolventref06_quoted.j3 (n + 1) x (mk out) (i : Int) 92 (c.toNat : Int) true = resolventref06_quoted.l0 n x (mk (out ++ [c])) ((i + 1 + 1 : Nat) : Int) := by
            intro n
            simp only [resolventref06_quoted.j3]
            rw [if_pos trivial, Option.bind_some, nums_one, if_pos (ap c), hw2, mk_app]
          have j3f : ∀ n, resolventref06_quoted.j3 (n + 1) x (mk out) (i : Int) 92 (c.toNat : Int) false = resolventref06_quoted.j4 n x (mk out) (i : Int) 92 (c.toNat : Int) ((c.toNat : Int) == 110) := by
            intro n
            simp only [resolventref06_quoted.j3]
            rw [if_neg (by decide), if_pos trivial]
          by_cases k92 : c = 92
          · subst k92
            rw [if_pos rfl]
            refine Ev.steps 4 0 (nxt 92) fun n => ?_
            show resolventref06_quoted.l0 (n + 1 + 2 + 1) _ _ _ = _
            rw [s3]; exact j3t n
          rw [if_neg k92]
          by_cases k39 : c = 39
          · subst k39
            rw [if_pos rfl]
            refine Ev.steps 4 0 (nxt 39) fun n => ?_
            show resolventref06_quoted.l0 (n + 1 + 2 + 1) _ _ _ = _
            rw [s3]; exact j3t n
          rw [if_neg k39]
          have s4 : ∀ n, resolventref06_quoted.l0 (n + 1 + 2 + 1) x (mk out) (i : Int) = resolventref06_quoted.j4 n x (mk out) (i : Int) 92 (c.toNat : Int) ((c.toNat : Int) == 110) := by
            intro n
            rw [s3, show (decide (c = 92) || decide (c = 39)) = false by simp [k92, k39]]
            exact j3f n
          by_cases k110 : c = 110
          · subst k110
            rw [if_pos rfl]
            refine Ev.steps 5 0 (nxt 10) fun n => ?_
            show resolventref06_quoted.l0 (n + 1 + 1 + 2 + 1) _ _ _ = _
            rw [s4]
            simp only [resolventref06_quoted.j4]
            rw [if_pos (by decide), Option.bind_some, show strOfNums [(10 : Int)] = mk [10] from nums_one 10, if_pos (ap 10), hw2, mk_app]
            rfl
          rw [if_neg k110]
          have s5 : ∀ n, resolventref06_quoted.l0 (n + 1 + 1 + 2 + 1) x (mk out) (i : Int) = resolventref06_quoted.j5 n x (mk out) (i : Int) 92 ((c.toNat : Int) == 116) := by
            intro n
            rw [s4]
            simp only [resolventref06_quoted.j4]
            rw [show ((c.toNat : Int) == 110) = false by simpa using nb k110 110 rfl, if_neg (by decide), if_pos trivial]
          by_cases k116 : c = 116
          · subst k116
            rw [if_pos rfl]
            refine Ev.steps 6 0 (nxt 9) fun n => ?_
            show resolventref06_quoted.l0 (n + 1 + 1 + 1 + 2 + 1) _ _ _ = _
            rw [s5]
            simp only [resolventref06_quoted.j5]
            rw [if_pos (by decide), Option.bind_some, show strOfNums [(9 : Int)] = mk [9] from nums_one 9, if_pos (ap 9), hw2, mk_app]
            rfl
          rw [if_neg k116]
          refine Ev.nows 6 fun n => ?_
          show resolventref06_quoted.l0 (n + 1 + 1 + 1 + 2 + 1) _ _ _ = _
          rw [s5]
          simp only [resolventref06_quoted.j5]
          rw [show ((c.toNat : Int) == 116) = false by simpa using nb k116 116 rfl, if_neg (by decide), if_pos trivial]
          rfl
        · refine Ev.steps 5 0 (last h39 h92) fun n => ?_
          show resolventref06_quoted.l0 (n + 4 + 1) _ _ _ = _
          rw [start]
          simp only [resolventref06_quoted.j1, resolventref06_quoted.j2, resolventref06_quoted.j3, resolventref06_quoted.j4]
          rw [if_neg (nb h39 39 rfl), if_neg (by decide), if_neg (nb h39 39 rfl), if_neg (nb h92 92 rfl), if_neg (by decide), if_neg (nb h92 92 rfl), if_neg (by decide), if_neg (nb h92 92 rfl)]
          rfl
    · have start : ∀ n, resolventref06_quoted.l0 (n + 1) x (mk out) (i : Int) = resolventref06_quoted.j1 n x (mk out) (i : Int) (b.toNat : Int) 0 := by
        intro n
        simp only [resolventref06_quoted.l0]
        rw [if_pos (by omega), if_pos (by omega), hw1, if_neg (by omega), hb]
      have hnil := drop_end x (i + 1) (by omega)
      by_cases h39 : b = 39
      · subst h39
        rw [hnil]
        unfold Lx.quotedM
        rw [if_pos rfl]
        refine Ev.nows 3 fun n => ?_
        show resolventref06_quoted.l0 (n + 2 + 1) _ _ _ = _
        rw [start]
        simp only [resolventref06_quoted.j1, resolventref06_quoted.j2]
        rw [if_pos (by decide), if_neg (by decide), if_pos (by decide), hw1]
        have : ((i + 1 : Nat) : Int) = (x.size : Int) - ((0 : Nat) : Int) := by omega
        rw [this]
        rfl
      · by_cases h92 : b = 92
        · subst h92
          rw [hnil]
          unfold Lx.quotedM
          rw [if_neg h39, if_pos rfl]
          refine Ev.nows 6 fun n => ?_
          show resolventref06_quoted.l0 (n + 5 + 1) _ _ _ = _
          rw [start]
          rfl
        · refine Ev.steps 5 0 (last h39 h92) fun n => ?_
          show resolventref06_quoted.l0 (n + 4 + 1) _ _ _ = _
          rw [start]
          simp only [resolventref06_quoted.j1, resolventref06_quoted.j2, resolventref06_quoted.j3, resolventref06_quoted.j4]
          rw [if_neg (nb h39 39 rfl), if_neg (by decide), if_neg (nb h39 39 rfl), if_neg (nb h92 92 rfl), if_neg (by decide), if_neg (nb h92 92 rfl), if_neg (by decide), if_neg (nb h92 92 rfl)]
          rfl

theorem quoted_f (x : ByteArray) (hx : x.size ≤ 8192) (i : Nat) (hi : i + 1 ≤ x.size) : Ev (fun k => resolventref06_quoted.f k x (i : Int)) (qres x.size (Lx.quotedM [] ((bl x).drop (i + 1)))) := by
  have h := quoted_all x hx (x.size - (i + 1)) (i + 1) hi (Nat.le_refl _) [] (by simp)
  have e : ∀ k, resolventref06_quoted.f k x (i : Int) = resolventref06_quoted.l0 k x (mk []) ((i + 1 : Nat) : Int) := by
    intro k
    unfold resolventref06_quoted.f
    rw [show wrap64 ((i : Int) + 1) = ((i + 1 : Nat) : Int) from wrap_small (by omega) (by omega)]
    rfl
  obtain ⟨K, hK⟩ := h
  exact ⟨K, fun n hn => (e n).trans (hK n hn)⟩

end Go.Proofs.YtnimccfcgckheaaDoor.Ref
/-
  The document's lexer, one token: the plain lexer's.
-/
namespace Go.Proofs.YtnimccfcgckheaaDoor.Ref
open Go.RowKit Go.Proofs.YtnimccfcgckheaaDoor.P Go.Proofs.YtnimccfcgckheaaDoorW.PrintWords Go.Proofs.YtnimccfcgckheaaDoorW.PrintLast
open Go Go.Proofs.YtnimccfcgckheaaDoor

theorem ext_eq (x : ByteArray) (p j : Nat) : x.extract (p : Int).toNat (j : Int).toNat = mk (((bl x).drop p).take (j - p)) := by
  apply bl_ext
  rw [bl_mk, Int.toNat_natCast, Int.toNat_natCast, bl_extract, List.drop_take]

abbrev Out := Int × ByteArray × Int × Int × Bool × Int × Int
def badOut : Out := (0, mk [], 0, 0, false, 0, 10)

theorem num_all (x : ByteArray) (hx : x.size ≤ 8192) : ∀ d j, j ≤ x.size → x.size - j ≤ d →
    (∀ z : Int, Ev (fun k => resolventref06_take.l0 k x (j : Int) z true) badOut) ∧
    (∀ v : Nat, v < 9223372036854775808 → Ev (fun k => resolventref06_take.l0 k x (j : Int) (v : Int) false)
      (if (((bl x).drop j).takeWhile Lx.letterB).all Lx.digitB = true ∧ (((bl x).drop j).takeWhile Lx.letterB).foldl Lx.fold10 v < 9223372036854775808
        then (4, mk [], ((((bl x).drop j).takeWhile Lx.letterB).foldl Lx.fold10 v : Nat), 0, false, (x.size : Int) - (((bl x).drop j).dropWhile Lx.letterB).length, 0) else badOut)) := by
  intro d
  induction d with
  | zero =>
    intro j hj hd
    have he : j = x.size := by omega
    subst he
    rw [drop_end x _ (Nat.le_refl _)]
    refine ⟨fun z => Ev.nows 2 fun n => ?_, fun v hv => Ev.nows 2 fun n => ?_⟩
    · show resolventref06_take.l0 (n + 1 + 1) x _ _ _ = _
      simp only [resolventref06_take.l0, resolventref06_take.j1]
      rw [if_neg (by omega), if_neg (by decide), if_pos trivial]
      rfl
    · show resolventref06_take.l0 (n + 1 + 1) x _ _ _ = _
      simp only [resolventref06_take.l0, resolventref06_take.j1]
      rw [if_neg (by omega), if_neg (by decide), if_neg (by decide), wrap_small (by omega) (by omega)]
      rw [if_pos ⟨rfl, by simpa using hv⟩]
      simp [mk]
  | succ d ih =>
    intro j hj hd
    by_cases he : j = x.size
    · subst he
      exact ih x.size (Nat.le_refl _) (by omega)
    have hlt : j < x.size := by omega
    obtain ⟨b, hdrop, hb⟩ := at_drop x j hlt
    obtain ⟨i0, i1⟩ := ih (j + 1) (by omega) (by omega)
    rw [hdrop]
    have hw1 : wrap64 ((j : Int) + 1) = ((j + 1 : Nat) : Int) := wrap_small (by omega) (by omega)
    have start : ∀ n (z : Int) (q : Bool), resolventref06_take.l0 (n + 1) x (j : Int) z q = resolventref06_take.j1 n x (j : Int) z q (Lx.letterB b) := by
      intro n z q
      simp only [resolventref06_take.l0]
      rw [if_pos (by omega), if_pos (by omega), hb, letter_f]
      rfl
    by_cases hl : Lx.letterB b = true
    · rw [List.takeWhile_cons_of_pos hl, List.dropWhile_cons_of_pos hl]
      by_cases hd' : Lx.digitB b = true
      · have hbd := (Lx.digitB_iff b).1 hd'
        have st2 : ∀ n (z : Int) (q : Bool), resolventref06_take.l0 (n + 1 + 1) x (j : Int) z q = if q = true then resolventref06_take.l0 n x ((j + 1 : Nat) : Int) z true else if z > 922337203685477580 then resolventref06_take.l0 n x ((j + 1 : Nat) : Int) (IntKind.u64.wrap ((IntKind.u64.wrap (10 * z)) + (((b.toNat : Int) - 48) % 256))) true else resolventref06_take.l0 n x ((j + 1 : Nat) : Int) (IntKind.u64.wrap ((IntKind.u64.wrap (10 * z)) + (((b.toNat : Int) - 48) % 256))) (decide ((IntKind.u64.wrap ((IntKind.u64.wrap (10 * z)) + (((b.toNat : Int) - 48) % 256))) > 9223372036854775807)) := by
          intro n z q
          rw [start, hl]
          simp only [resolventref06_take.j1]
          rw [if_pos trivial, if_pos (by omega), if_pos (by omega), hb, digit_f, hd', hw1, Option.bind_some, if_pos rfl]
        refine ⟨fun z => Ev.steps 2 0 (i0 z) fun n => ?_, fun v hv => ?_⟩
        · show resolventref06_take.l0 (n + 1 + 1) x _ _ _ = _
          rw [st2, if_pos rfl]; rfl
        · simp only [List.all_cons, hd', Bool.true_and, List.foldl_cons]
          by_cases hbig : (v : Int) > 922337203685477580
          · have hge := Lx.fold_ge (((bl x).drop (j + 1)).takeWhile Lx.letterB) (Lx.fold10 v b)
            have hf : Lx.fold10 v b = 10 * v + (b.toNat - 48) := rfl
            rw [if_neg (fun h => by omega)]
            refine Ev.steps 2 0 (i0 (IntKind.u64.wrap ((IntKind.u64.wrap (10 * (v : Int))) + (((b.toNat : Int) - 48) % 256)))) fun n => ?_
            show resolventref06_take.l0 (n + 1 + 1) x _ _ _ = _
            rw [st2, if_neg (by decide), if_pos hbig]; rfl
          · have hval : IntKind.u64.wrap ((IntKind.u64.wrap (10 * (v : Int))) + (((b.toNat : Int) - 48) % 256)) = ((Lx.fold10 v b : Nat) : Int) := by
              have hf : Lx.fold10 v b = 10 * v + (b.toNat - 48) := rfl
              rw [IntWalk.u64_in (10 * (v : Int)) ⟨by omega, by omega⟩, IntWalk.u64_in _ ⟨by omega, by omega⟩, hf]
              omega
            by_cases hb2 : ((Lx.fold10 v b : Nat) : Int) > 9223372036854775807
            · have hge := Lx.fold_ge (((bl x).drop (j + 1)).takeWhile Lx.letterB) (Lx.fold10 v b)
              rw [if_neg (fun h => by omega)]
              refine Ev.steps 2 0 (i0 ((Lx.fold10 v b : Nat) : Int)) fun n => ?_
              show resolventref06_take.l0 (n + 1 + 1) x _ _ _ = _
              rw [st2, if_neg (by decide), if_neg hbig, hval, decide_eq_true hb2]; rfl
            · refine Ev.steps 2 0 (i1 (Lx.fold10 v b) (by omega)) fun n => ?_
              show resolventref06_take.l0 (n + 1 + 1) x _ _ _ = _
              rw [st2, if_neg (by decide), if_neg hbig, hval, decide_eq_false hb2]; rfl
      · have hd'' : Lx.digitB b = false := by simpa using hd'
        have st2 : ∀ n (z : Int) (q : Bool), resolventref06_take.l0 (n + 1 + 1) x (j : Int) z q = resolventref06_take.l0 n x ((j + 1 : Nat) : Int) z true := by
          intro n z q
          rw [start, hl]
          simp only [resolventref06_take.j1]
          rw [if_pos trivial, if_pos (by omega), if_pos (by omega), hb, digit_f, hd'', hw1, Option.bind_some, if_neg (by decide)]
        refine ⟨fun z => Ev.steps 2 0 (i0 z) fun n => st2 n z true, fun v hv => ?_⟩
        rw [if_neg (by rw [List.all_cons, hd'']; simp)]
        exact Ev.steps 2 0 (i0 (v : Int)) fun n => st2 n _ false
    · have hl' : Lx.letterB b = false := by simpa using hl
      rw [List.takeWhile_cons_of_neg hl, List.dropWhile_cons_of_neg hl, ← hdrop]
      refine ⟨fun z => Ev.nows 2 fun n => ?_, fun v hv => Ev.nows 2 fun n => ?_⟩
      · show resolventref06_take.l0 (n + 1 + 1) x _ _ _ = _
        rw [start, hl']
        simp only [resolventref06_take.j1]
        rw [if_neg (by decide), if_pos trivial]
        rfl
      · show resolventref06_take.l0 (n + 1 + 1) x _ _ _ = _
        rw [start, hl']
        simp only [resolventref06_take.j1]
        rw [if_neg (by decide), if_neg (by decide), wrap_small (by omega) (by omega), if_pos ⟨rfl, by simpa using hv⟩, drop_len]
        have : (j : Int) = (x.size : Int) - ((x.size - j : Nat) : Int) := by omega
        rw [← this]
        rfl

theorem word_all (x : ByteArray) (hx : x.size ≤ 8192) (p : Nat) (b : UInt8) : ∀ d j, p ≤ j → j ≤ x.size → x.size - j ≤ d →
    Ev (fun k => resolventref06_take.l1 k x (p : Int) (b.toNat : Int) (j : Int))
      ((if Lx.lowerB b = true then 1 else 3), mk (((bl x).drop p).take (j + (((bl x).drop j).takeWhile Lx.letterB).length - p)), 0, 0, false, ((j + (((bl x).drop j).takeWhile Lx.letterB).length : Nat) : Int), 0) := by
  intro d
  induction d with
  | zero =>
    intro j hp hj hd
    rw [drop_end x j (by omega)]
    refine Ev.nows 1 fun n => ?_
    simp only [resolventref06_take.l1]
    rw [if_neg (by omega), lower_f, Option.bind_some, ext_eq, if_pos (show (0 : Int) ≤ (p : Int) by omega), if_pos (show (p : Int) ≤ (j : Int) by omega), if_pos (show (j : Int) ≤ (x.size : Int) by omega)]
    cases Lx.lowerB b <;> simp <;> omega
  | succ d ih =>
    intro j hp hj hd
    by_cases he : j = x.size
    · exact ih j hp hj (by omega)
    have hlt : j < x.size := by omega
    obtain ⟨c, hdrop, hc⟩ := at_drop x j hlt
    rw [hdrop]
    by_cases hl : Lx.letterB c = true
    · rw [List.takeWhile_cons_of_pos hl]
      have h := ih (j + 1) (by omega) (by omega) (by omega)
      have e : j + (c :: ((bl x).drop (j + 1)).takeWhile Lx.letterB).length = j + 1 + (((bl x).drop (j + 1)).takeWhile Lx.letterB).length := by simp; omega
      rw [e]
      refine Ev.step h fun n => ?_
      simp only [resolventref06_take.l1]
      rw [if_pos (by omega), if_pos (by omega), hc, letter_f, hl, Option.bind_some, if_pos rfl, wrap_small (by omega) (by omega)]
      rfl
    · have hl' : Lx.letterB c = false := by simpa using hl
      rw [List.takeWhile_cons_of_neg hl]
      refine Ev.nows 1 fun n => ?_
      simp only [resolventref06_take.l1]
      rw [if_pos (by omega), if_pos (by omega), hc, letter_f, hl', Option.bind_some, if_neg (by decide), lower_f, Option.bind_some, ext_eq, if_pos (show (0 : Int) ≤ (p : Int) by omega), if_pos (show (p : Int) ≤ (j : Int) by omega), if_pos (show (j : Int) ≤ (x.size : Int) by omega)]
      cases Lx.lowerB b <;> simp <;> omega

/-- Where a run of signs ends. -/
def symOut (x : ByteArray) (p : Nat) (b : UInt8) (j : Nat) : Out :=
  let J := j + (((bl x).drop j).takeWhile Lx.symbolB).length
  if b = 46 ∧ J = p + 1 ∧ ((((bl x).drop j).dropWhile Lx.symbolB).head?.all fun c => Lx.blankB c || c == 37) = true then (6, mk [], 0, 0, false, (J : Int), 0)
  else (1, mk (((bl x).drop p).take (J - p)), 0, 0, false, (J : Int), 0)

theorem sym_all (x : ByteArray) (hx : x.size ≤ 8192) (p : Nat) (b : UInt8) : ∀ d j, p ≤ j → j ≤ x.size → x.size - j ≤ d →
    Ev (fun k => resolventref06_take.l2 k x (p : Int) (b.toNat : Int) (j : Int)) (symOut x p b j) := by
  intro d
  induction d with
  | zero =>
    intro j hp hj hd
    have he : j = x.size := by omega
    subst he
    unfold symOut
    rw [drop_end x _ (Nat.le_refl _)]
    refine Ev.nows 1 fun n => ?_
    simp only [resolventref06_take.l2]
    rw [if_neg (by omega), wrap_small (by omega) (by omega), ext_eq, if_pos (show (0 : Int) ≤ (p : Int) by omega), if_pos (show (p : Int) ≤ (x.size : Int) by omega), if_pos (show (x.size : Int) ≤ (x.size : Int) by omega)]
    by_cases h46 : b = 46
    · rw [if_pos (by rw [h46]; decide)]
      by_cases h1 : x.size = p + 1
      · rw [if_pos (by omega), if_pos trivial, if_pos ⟨h46, by simpa using h1, by simp⟩]
        simp [mk]
      · rw [if_neg (by omega), if_neg (fun h => h1 (by simpa using h.2.1))]
        simp
    · rw [if_neg (nb h46 46 rfl), if_neg (fun h => h46 h.1)]
      simp
  | succ d ih =>
    intro j hp hj hd
    by_cases he : j = x.size
    · exact ih j hp hj (by omega)
    have hlt : j < x.size := by omega
    obtain ⟨c, hdrop, hc⟩ := at_drop x j hlt
    by_cases hl : Lx.symbolB c = true
    · have h := ih (j + 1) (by omega) (by omega) (by omega)
      have e : symOut x p b j = symOut x p b (j + 1) := by
        unfold symOut
        rw [hdrop, List.takeWhile_cons_of_pos hl, List.dropWhile_cons_of_pos hl]
        have e : j + (c :: ((bl x).drop (j + 1)).takeWhile Lx.symbolB).length = j + 1 + (((bl x).drop (j + 1)).takeWhile Lx.symbolB).length := by simp; omega
        rw [e]
      rw [e]
      obtain ⟨K, hK⟩ := h
      refine ⟨K + 21, fun n hn => ?_⟩
      obtain ⟨m, rfl⟩ : ∃ m, n = m + 1 := ⟨n - 1, by omega⟩
      show resolventref06_take.l2 (m + 1) x _ _ _ = _
      simp only [resolventref06_take.l2]
      rw [if_pos (by omega), if_pos (by omega), hc, symbol_f c m (by omega), hl, Option.bind_some, if_pos rfl, wrap_small (by omega) (by omega)]
      exact hK m (by omega)
    · have hl' : Lx.symbolB c = false := by simpa using hl
      refine ⟨21, fun n hn => ?_⟩
      obtain ⟨m, rfl⟩ : ∃ m, n = m + 1 := ⟨n - 1, by omega⟩
      show resolventref06_take.l2 (m + 1) x _ _ _ = _
      unfold symOut
      rw [hdrop, List.takeWhile_cons_of_neg hl, List.dropWhile_cons_of_neg hl]
      simp only [resolventref06_take.l2]
      rw [if_pos (by omega), if_pos (by omega), hc, symbol_f c m (by omega), hl', Option.bind_some, if_neg (by decide), wrap_small (i := (p : Int) + 1) (by omega) (by omega), ext_eq, if_pos (show (0 : Int) ≤ (p : Int) by omega), if_pos (show (p : Int) ≤ (j : Int) by omega), if_pos (show (j : Int) ≤ (x.size : Int) by omega)]
      by_cases h46 : b = 46
      · rw [if_pos (by rw [h46]; decide)]
        by_cases h1 : j = p + 1
        · rw [if_pos (by omega), if_neg (by omega), blank_f, Option.bind_some]
          by_cases hbl : Lx.blankB c = true
          · rw [if_pos hbl, if_pos ⟨h46, by simpa using h1, by simp [hbl]⟩]
            simp [mk]
          · rw [if_neg hbl]
            by_cases h37 : c = 37
            · rw [if_pos (by rw [h37]; decide), if_pos ⟨h46, by simpa using h1, by simp [h37]⟩]
              simp [mk]
            · rw [if_neg (nb h37 37 rfl), if_neg (fun h => by have := h.2.2; simp [hbl, h37] at this)]
              simp
        · rw [if_neg (by omega), if_neg (fun h => h1 (by simpa using h.2.1))]
          simp
      · rw [if_neg (nb h46 46 rfl), if_neg (fun h => h46 h.1)]
        simp

end Go.Proofs.YtnimccfcgckheaaDoor.Ref
/-
  The document's lexer, one token at a text's begin: the plain lexer's 'take'.
-/
namespace Go.Proofs.YtnimccfcgckheaaDoor.Ref
open Go.RowKit Go.Proofs.YtnimccfcgckheaaDoor.P Go.Proofs.YtnimccfcgckheaaDoorW.PrintWords Go.Proofs.YtnimccfcgckheaaDoorW.PrintLast
open Go Go.Proofs.YtnimccfcgckheaaDoor

def tres (n : Nat) (q : Except Nat (Nat × List UInt8 × Int × List UInt8)) (z : Out) : Prop :=
  match q with
  | .ok (k, t, v, rest) => z = ((k : Int), mk t, v, 0, false, (n : Int) - rest.length, 0)
  | .error e => z.2.2.2.2.2.2 = (e : Int) ∧ e ≠ 0

theorem cls_digit (b : UInt8) : Lx.digitB b = true → Lx.lowerB b = false ∧ Lx.upperB b = false := by
  have := byteAll (fun b => !Lx.digitB b || (!Lx.lowerB b && !Lx.upperB b)) (by kernel_rfl) b
  intro h
  simpa [h] using this
theorem cls_symbol (b : UInt8) : Lx.symbolB b = true → Lx.signB b = false ∧ Lx.bangB b = false := by
  have := byteAll (fun b => !Lx.symbolB b || (!Lx.signB b && !Lx.bangB b)) (by kernel_rfl) b
  intro h
  simpa [h] using this
theorem cls_bang (b : UInt8) : Lx.bangB b = true → Lx.signB b = false := by
  have := byteAll (fun b => !Lx.bangB b || !Lx.signB b) (by kernel_rfl) b
  intro h
  simpa [h] using this
theorem cls_sign (b : UInt8) : Lx.signB b = true → Lx.bangB b = false ∧ b ≠ 39 := by
  have := byteAll (fun b => !Lx.signB b || (!Lx.bangB b && b != 39)) (by kernel_rfl) b
  intro h
  simpa [h] using this
theorem bang_int (b : UInt8) : (if (b.toNat : Int) = 33 then true else ((b.toNat : Int) == 59)) = Lx.bangB b := by
  have := byteAll (fun b => (if (b.toNat : Int) = 33 then true else ((b.toNat : Int) == 59)) == Lx.bangB b) (by kernel_rfl) b
  simpa using this

theorem take_f (x : ByteArray) (hx : x.size ≤ 8192) (p : Nat) (hp : p < x.size) :
    ∃ z, Ev (fun k => resolventref06_take.f k x (p : Int)) z ∧ tres x.size (Lx.take ((bl x).drop p)) z := by
  obtain ⟨b, hdrop, hb⟩ := at_drop x p hp
  have hw1 : wrap64 ((p : Int) + 1) = ((p + 1 : Nat) : Int) := wrap_small (by omega) (by omega)
  have hrl := drop_len x (p + 1)
  have hlen (q : UInt8 → Bool) := Lx.dropWhile_len q ((bl x).drop (p + 1))
  have hJ : ∀ J : Nat, p + 1 ≤ J → ((bl x).drop p).take (J - p) = b :: ((bl x).drop (p + 1)).take (J - (p + 1)) := by
    intro J hJ
    rw [hdrop, show J - p = (J - (p + 1)) + 1 by omega, List.take_succ_cons]
  rw [hdrop]
  simp only [Lx.take]
  by_cases hd : Lx.digitB b = true
  · obtain ⟨hl, hu⟩ := cls_digit b hd
    rw [if_neg (by simp [hl]), if_neg (by simp [hu]), if_pos hd]
    have hn := (num_all x hx (x.size - p) p (by omega) (Nat.le_refl _)).2 0 (by decide)
    rw [hdrop] at hn
    have he : Ev (fun k => resolventref06_take.f k x (p : Int)) _ := Ev.steps 0 0 hn fun n => by
      unfold resolventref06_take.f
      rw [if_pos (by omega), if_pos (by omega), hb, digit_f, hd, Option.bind_some, if_pos rfl]
      rfl
    refine ⟨_, he, ?_⟩
    rw [Lx.value_fold]
    split
    · rfl
    · exact ⟨rfl, by decide⟩
  have hd' : Lx.digitB b = false := by simpa using hd
  by_cases hl : Lx.letterB b = true
  · have hw := word_all x hx p b (x.size - (p + 1)) (p + 1) (by omega) (by omega) (Nat.le_refl _)
    have he : Ev (fun k => resolventref06_take.f k x (p : Int)) _ := Ev.steps 0 0 hw fun n => by
      unfold resolventref06_take.f
      rw [if_pos (by omega), if_pos (by omega), hb, digit_f, hd', Option.bind_some, if_neg (by decide), letter_f, hl, Option.bind_some, if_pos rfl, hw1]
    refine ⟨_, he, ?_⟩
    rw [hJ _ (by omega), show p + 1 + (((bl x).drop (p + 1)).takeWhile Lx.letterB).length - (p + 1) = (((bl x).drop (p + 1)).takeWhile Lx.letterB).length by omega, take_takeWhile, List.takeWhile_cons_of_pos hl, List.dropWhile_cons_of_pos hl]
    have hlb := hlen Lx.letterB
    have hnum : ((p + 1 + (((bl x).drop (p + 1)).takeWhile Lx.letterB).length : Nat) : Int) = (x.size : Int) - (((bl x).drop (p + 1)).dropWhile Lx.letterB).length := by omega
    rw [hnum]
    by_cases hlo : Lx.lowerB b = true
    · rw [if_pos hlo, if_pos hlo]; rfl
    · rw [if_neg hlo, if_neg hlo]
      have hu : Lx.upperB b = true := by
        have : (Lx.lowerB b || Lx.upperB b || Lx.digitB b) = true := hl
        simpa [hd', hlo] using this
      rw [if_pos hu]; rfl
  have hl' : Lx.letterB b = false := by simpa using hl
  have hlu : Lx.lowerB b = false ∧ Lx.upperB b = false := by
    have : (Lx.lowerB b || Lx.upperB b || Lx.digitB b) = false := hl'
    simp at this
    exact this.1
  rw [if_neg (by simp [hlu.1]), if_neg (by simp [hlu.2]), if_neg hd]
  by_cases hs : Lx.symbolB b = true
  · obtain ⟨hsg, hbg⟩ := cls_symbol b hs
    rw [if_neg (by simp [hsg]), if_neg (by simp [hbg]), if_pos hs]
    have hw := sym_all x hx p b (x.size - (p + 1)) (p + 1) (by omega) (by omega) (Nat.le_refl _)
    have he : Ev (fun k => resolventref06_take.f k x (p : Int)) (symOut x p b (p + 1)) := by
      obtain ⟨K, hK⟩ := hw
      refine ⟨K + 20, fun n hn => ?_⟩
      show resolventref06_take.f n x (p : Int) = _
      unfold resolventref06_take.f
      rw [if_pos (by omega), if_pos (by omega), hb, digit_f, hd', Option.bind_some, if_neg (by decide), letter_f, hl', Option.bind_some, if_neg (by decide), symbol_f b n (by omega), hs, Option.bind_some, if_pos rfl, hw1]
      exact hK n (by omega)
    refine ⟨_, he, ?_⟩
    unfold symOut
    simp only
    rw [List.takeWhile_cons_of_pos hs, List.dropWhile_cons_of_pos hs, hJ _ (by omega), show p + 1 + (((bl x).drop (p + 1)).takeWhile Lx.symbolB).length - (p + 1) = (((bl x).drop (p + 1)).takeWhile Lx.symbolB).length by omega, take_takeWhile]
    have hlb := hlen Lx.symbolB
    have hnum : ((p + 1 + (((bl x).drop (p + 1)).takeWhile Lx.symbolB).length : Nat) : Int) = (x.size : Int) - (((bl x).drop (p + 1)).dropWhile Lx.symbolB).length := by omega
    rw [hnum]
    have hiff : (b :: ((bl x).drop (p + 1)).takeWhile Lx.symbolB = [46] ∧ ((((bl x).drop (p + 1)).dropWhile Lx.symbolB).head?.all fun c => Lx.blankB c || c == 37) = true) ↔ (b = 46 ∧ p + 1 + (((bl x).drop (p + 1)).takeWhile Lx.symbolB).length = p + 1 ∧ ((((bl x).drop (p + 1)).dropWhile Lx.symbolB).head?.all fun c => Lx.blankB c || c == 37) = true) := by
      constructor
      · rintro ⟨h1, h2⟩
        simp only [List.cons.injEq] at h1
        exact ⟨h1.1, by rw [h1.2]; rfl, h2⟩
      · rintro ⟨h1, h2, h3⟩
        exact ⟨by rw [h1, List.length_eq_zero_iff.1 (show (((bl x).drop (p + 1)).takeWhile Lx.symbolB).length = 0 by omega)], h3⟩
    by_cases hc : (b :: ((bl x).drop (p + 1)).takeWhile Lx.symbolB = [46] ∧ ((((bl x).drop (p + 1)).dropWhile Lx.symbolB).head?.all fun c => Lx.blankB c || c == 37) = true)
    · rw [if_pos hc, if_pos (hiff.1 hc)]; rfl
    · rw [if_neg hc, if_neg (fun h => hc (hiff.2 h))]; rfl
  have hs' : Lx.symbolB b = false := by simpa using hs
  have step : ∀ n, 20 ≤ n → resolventref06_take.f n x (p : Int) = resolventref06_take.j4 n x (p : Int) (b.toNat : Int) ((p + 1 : Nat) : Int) (Lx.bangB b) := by
    intro n hn
    unfold resolventref06_take.f
    rw [if_pos (by omega), if_pos (by omega), hb, digit_f, hd', Option.bind_some, if_neg (by decide), letter_f, hl', Option.bind_some, if_neg (by decide), symbol_f b n (by omega), hs', Option.bind_some, if_neg (by decide), hw1, ← bang_int]
    split <;> rfl
  have e1 : ((p + 1 : Nat) : Int) = (x.size : Int) - ((bl x).drop (p + 1)).length := by rw [hrl]; omega
  have h1 : x.extract (p : Int).toNat ((p + 1 : Nat) : Int).toNat = mk [b] := by
    rw [ext_eq, hJ _ (Nat.le_refl _)]; simp
  by_cases hg : Lx.bangB b = true
  · rw [if_neg (by simp [cls_bang b hg]), if_pos hg]
    refine ⟨(1, mk [b], 0, 0, false, ((p + 1 : Nat) : Int), 0), ⟨21, fun n hn => ?_⟩, ?_⟩
    · show resolventref06_take.f n x (p : Int) = _
      rw [step n (by omega), hg]
      obtain ⟨m, rfl⟩ : ∃ m, n = m + 1 := ⟨n - 1, by omega⟩
      simp only [resolventref06_take.j4]
      rw [if_pos trivial, if_pos (by omega), if_pos (by omega), if_pos (by omega), h1]
    · rw [e1]; rfl
  have hg' : Lx.bangB b = false := by simpa using hg
  by_cases hsg : Lx.signB b = true
  · rw [if_pos hsg]
    refine ⟨(5, mk [b], 0, 0, false, ((p + 1 : Nat) : Int), 0), ⟨21, fun n hn => ?_⟩, ?_⟩
    · show resolventref06_take.f n x (p : Int) = _
      rw [step n (by omega), hg']
      obtain ⟨m, rfl⟩ : ∃ m, n = m + 1 := ⟨n - 1, by omega⟩
      simp only [resolventref06_take.j4]
      rw [if_neg (by decide), sign_f b m (by omega), hsg, Option.bind_some, if_pos rfl, if_pos (by omega), if_pos (by omega), if_pos (by omega), h1]
    · rw [e1]; rfl
  have hsg' : Lx.signB b = false := by simpa using hsg
  rw [if_neg hsg, if_neg hg, if_neg hs]
  by_cases h39 : b = 39
  · rw [if_pos h39]
    have hq := quoted_f x hx p (by omega)
    refine ⟨(2, (qres x.size (Lx.quotedM [] ((bl x).drop (p + 1)))).1, 0, 0, false, (qres x.size (Lx.quotedM [] ((bl x).drop (p + 1)))).2.1, (qres x.size (Lx.quotedM [] ((bl x).drop (p + 1)))).2.2), ?_, ?_⟩
    · obtain ⟨K, hK⟩ := hq
      refine ⟨K + 21, fun n hn => ?_⟩
      show resolventref06_take.f n x (p : Int) = _
      rw [step n (by omega), hg']
      obtain ⟨m, rfl⟩ : ∃ m, n = m + 1 := ⟨n - 1, by omega⟩
      simp only [resolventref06_take.j4]
      rw [if_neg (by decide), sign_f b m (by omega), hsg', Option.bind_some, if_neg (by decide), if_pos (by rw [h39]; decide)]
      have := hK m (by omega)
      rw [show resolventref06_quoted.f m x (p : Int) = _ from this, Option.bind_some]
    · rcases Lx.quotedM [] ((bl x).drop (p + 1)) with _ | ⟨t, rest⟩
      · exact ⟨rfl, by decide⟩
      · rfl
  · rw [if_neg h39]
    refine ⟨badOut, ⟨21, fun n hn => ?_⟩, ⟨rfl, by decide⟩⟩
    show resolventref06_take.f n x (p : Int) = _
    rw [step n (by omega), hg']
    obtain ⟨m, rfl⟩ : ∃ m, n = m + 1 := ⟨n - 1, by omega⟩
    simp only [resolventref06_take.j4]
    rw [if_neg (by decide), sign_f b m (by omega), hsg', Option.bind_some, if_neg (by decide), if_neg (nb h39 39 rfl)]
    rfl

end Go.Proofs.YtnimccfcgckheaaDoor.Ref
