/-
  'Great' of the laws: what it tells when it says no.
-/
import Derived.Test.YthnjdfblappkfaaDoorMBound
import Derived.Test.YthnjdfblappkfaaDoorMRefs1
namespace Go.Proofs.YthnjdfblappkfaaDoor.RefW
open Go.RowKit Go.Proofs.YthnjdfblappkfaaDoor.P Go.Proofs.YthnjdfblappkfaaDoorW.PrintWords Go.Proofs.YthnjdfblappkfaaDoorW.PrintLast Go.Proofs.YthnjdfblappkfaaDoorW.PrintMore
open Go Go.Proofs.YthnjdfblappkfaaDoor

theorem rd_app (pre : List S24) (x : S24) (t : List S24) : rd_T24 (pre ++ x :: t) (pre.length : Int) = x := by
  rw [rdI _ pre.length (by simp)]
  simp

def big : Int := 1125899906842624 * 8
/-- What one round adds. -/
def add1 (n : Int) (s : Nat) : Int := wrap64 ((wrap64 (n + 1)) + (wrap64 ((wrap64 ((s : Int) / 200)) * 2000)))
theorem add1_eq (n : Int) (s : Nat) (h0 : 0 ≤ n) (h1 : n < 2000) (hs : s ≤ 140737488355328) : n + 1 ≤ add1 n s ∧ add1 n s ≤ big ∧ (add1 n s < 2000 → s ≤ 199 ∧ add1 n s = n + 1) := by
  unfold add1 big
  rw [wrap_small (i := n + 1) (by omega) (by omega), wrap_small (i := (s : Int) / 200) (by omega) (by omega), wrap_small (i := (s : Int) / 200 * 2000) (by omega) (by omega), wrap_small (by omega) (by omega)]
  omega

theorem aux1 {p : Nat} {n a : Int} (h : (p : Int) ≤ n) (a1 : n + 1 ≤ a) : 0 ≤ a := by omega
theorem aux2 {p : Nat} {n a r1 : Int} (h : (p : Int) ≤ n) (a1 : n + 1 ≤ a) (b1 : a ≤ r1) : ((p + 1 : Nat) : Int) ≤ r1 := by omega
theorem aux3 {n a r1 r2 : Int} (a1 : n + 1 ≤ a) (b1 : a ≤ r1) (c1 : r1 ≤ r2) : n ≤ r2 := by omega
theorem aux4 {n a r1 r2 : Int} {sx st : Nat} (d1 : r1 + (st : Int) ≤ r2) (d3 : a + (sx : Int) ≤ r1) (d6 : a = n + 1) : n + ((sx + 1 + st : Nat) : Int) ≤ r2 := by omega
theorem aux5 {p : Nat} {n : Int} (h : (p : Int) ≤ n) (hn : n < 2000) : wrap64 ((p : Int) + 1) = ((p + 1 : Nat) : Int) := wrap_small (by omega) (by omega)

theorem many_ev : ∀ (m : Nat) (l : List S24), sizeTL l ≤ m → nmL l ≤ 140737488355328 → ∀ n : Int, 0 ≤ n → n ≤ big →
    ∃ r : Int, Ev (fun k => resolventlaw01_many.f k l n) r ∧ n ≤ r ∧ r ≤ big ∧ (r < 2000 → n + (sizeTL l : Int) ≤ r ∧ nmL l ≤ 199) := by
  intro m
  induction m with
  | zero =>
    intro l hm hN n h0 hb
    cases l with
    | nil =>
      refine ⟨n, Ev.nows 2 fun k => ?_, Int.le_refl _, hb, fun _ => ⟨by simp [sizeTL], by simp [nmL]⟩⟩
      simp only [resolventlaw01_many.f, resolventlaw01_many.l0]
      rw [if_neg (by simp)]
    | cons x t =>
      simp only [sizeTL] at hm
      have := sizeT_eq x
      omega
  | succ m ih =>
    intro l hm hN n h0 hb
    have loop : ∀ (t pre : List S24), l = pre ++ t → ∀ n : Int, (pre.length : Int) ≤ n → n ≤ big →
        ∃ r : Int, Ev (fun k => resolventlaw01_many.l0 k l n (pre.length : Int)) r ∧ n ≤ r ∧ r ≤ big ∧ (r < 2000 → n + (sizeTL t : Int) ≤ r ∧ nmL t ≤ 199) := by
      intro t
      induction t with
      | nil =>
        intro pre hl n hp hb
        refine ⟨n, Ev.nows 1 fun k => ?_, Int.le_refl _, hb, fun _ => ⟨by simp [sizeTL], by simp [nmL]⟩⟩
        simp only [resolventlaw01_many.l0]
        rw [if_neg (by rw [hl]; simp)]
      | cons x t iht =>
        intro pre hl n hp hb
        have hlen : (pre.length : Int) < (l.length : Int) := by rw [hl, List.length_append, List.length_cons]; exact Int.ofNat_lt.2 (Nat.lt_add_of_pos_right (Nat.succ_pos _))
        by_cases hn : n < 2000
        · have hxm : x ∈ l := by rw [hl]; simp
          have hsx : sizeTL x.f3 ≤ m := by
            have h1 := sizeT_mem l x hxm
            rw [sizeT_eq] at h1
            exact Nat.le_of_succ_le_succ (Nat.le_trans h1 hm)
          have hnx := (nmL_le l 140737488355328).1 hN x hxm
          rw [nmT_eq] at hnx
          obtain ⟨a1, a2, a3⟩ := add1_eq n x.f1.size (Int.le_trans (Int.natCast_nonneg _) hp) hn (Nat.le_trans (Nat.le_max_left _ _) hnx)
          obtain ⟨r1, e1, b1, b2, b3⟩ := ih x.f3 hsx (Nat.le_trans (Nat.le_max_right _ _) hnx) (add1 n x.f1.size) (aux1 hp a1) a2
          have hp1 : (pre ++ [x]).length = pre.length + 1 := by simp
          obtain ⟨r2, e2, c1, c2, c3⟩ := iht (pre ++ [x]) (by rw [hl]; simp) r1 (by rw [hp1]; exact aux2 hp a1 b1) b2
          refine ⟨r2, ?_, aux3 a1 b1 c1, c2, fun hr => ?_⟩
          · have hw : wrap64 ((pre.length : Int) + 1) = ((pre ++ [x]).length : Int) := by
              rw [hp1]
              exact aux5 hp hn
            refine Ev.step (g := fun k => (resolventlaw01_many.f k x.f3 (add1 n x.f1.size)).bind fun t => resolventlaw01_many.l0 k l t ((pre ++ [x]).length : Int)) (Ev.bind e1 e2) (fun k => ?_)
            simp only [resolventlaw01_many.l0]
            rw [if_pos hlen, if_pos hn, if_pos (Int.natCast_nonneg _), hl, rd_app, hw]
            rfl
          · obtain ⟨d1, d2⟩ := c3 hr
            have hr1 : r1 < 2000 := Int.lt_of_le_of_lt c1 hr
            obtain ⟨d3, d4⟩ := b3 hr1
            obtain ⟨d5, d6⟩ := a3 (Int.lt_of_le_of_lt b1 hr1)
            simp only [sizeTL, nmL]
            rw [sizeT_eq, nmT_eq]
            refine ⟨aux4 d1 d3 d6, ?_⟩
            exact Nat.max_le.2 ⟨Nat.max_le.2 ⟨d5, d4⟩, d2⟩
        · refine ⟨n, Ev.nows 1 fun k => ?_, Int.le_refl _, hb, fun h => absurd h hn⟩
          simp only [resolventlaw01_many.l0]
          rw [if_pos hlen, if_neg hn]
    obtain ⟨r, e, h1, h2, h3⟩ := loop l [] rfl n h0 hb
    exact ⟨r, Ev.step e fun k => by simp only [resolventlaw01_many.f]; rfl, h1, h2, h3⟩

theorem Great_ev (l : List S24) (hN : nmL l ≤ 140737488355328) : ∃ b, (∃ k, resolventlaw01_Great.f k l = some b) ∧ (b = false → sizeTL l ≤ 1000 ∧ nmL l ≤ 199) := by
  obtain ⟨r, ⟨k, hk⟩, h1, h2, h3⟩ := many_ev _ l (Nat.le_refl _) hN 0 (Int.le_refl _) (by decide)
  refine ⟨decide (r > 1000), ⟨k, ?_⟩, fun h => ?_⟩
  · unfold resolventlaw01_Great.f
    have := hk k (Nat.le_refl _)
    simp only [] at this
    rw [this]
    rfl
  · have hr : ¬ r > 1000 := of_decide_eq_false h
    obtain ⟨a, b⟩ := h3 (by omega)
    exact ⟨by omega, b⟩

/-- The law's test, as a call. -/
theorem Great_calls (A : Option Addr) (c : Nat) (l : List S24) (w : World) (hC : Kd.C k24 w A l.length l) (hc : l.length ≤ c) (hN : nmL l ≤ 140737488355328) :
    ∃ b, (b = false → sizeTL l ≤ 1000 ∧ nmL l ≤ 199) ∧ Calls Tryd.prog 13 #[.slice A l.length c] w fun e w' => e = .returned (.bool b) ∧ Below w.heap.size w w' := by
  obtain ⟨b, ⟨k, hk⟩, hb⟩ := Great_ev l hN
  exact ⟨b, hb, resolventlaw01_Great.calls k A c l b w hC hc hk⟩
end Go.Proofs.YthnjdfblappkfaaDoor.RefW
