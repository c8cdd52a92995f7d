/- Several small texts of this claim in one. -/
import Derived.Test.YthnjdfblappkfaaDoorMGood
import Derived.Lib.ItoaLen
import Derived.Deep.RegionHeld
section
/-
  write.elements: an iterator over a list's elements, which leaves what is behind them.
-/
namespace Go.Proofs.YthnjdfblappkfaaDoor
open Go.RowKit Go.Proofs.YthnjdfblappkfaaDoorW.PrintWords Go.Proofs.YthnjdfblappkfaaDoorW.PrintLast Go.Proofs.YthnjdfblappkfaaDoorW.PrintMore Go.Proofs.YthnjdfblappkfaaDoor.P
attribute [local go_sem] Oper.semAt_some

/-- A term's four cells. -/
def rowT (x : S24) (A : Option Addr) (c : Nat) : Array Value := #[.int .u8 x.f0, .string x.f1, .int .i64 x.f2, .slice A x.f3.length c]

theorem elements_calls (x : S24) (A : Option Addr) (c b2 : Nat) (w : World) :
    Calls Tryd.prog 61 #[.agg #[.int .u8 x.f0, .string x.f1, .int .i64 x.f2, .slice A x.f3.length c], .pointer (some ⟨b2, 0, none⟩)] w fun e w' => e = .returned (.func (.func 101) #[] #[.pointer (some ⟨w.heap.size, 0, none⟩), .pointer (some ⟨w.heap.size + 1, 0, none⟩)]) ∧
      w' = (w.alloc (.cells #[.int .u8 x.f0, .string x.f1, .int .i64 x.f2, .slice A x.f3.length c] 24)).alloc (.cells #[.pointer (some ⟨b2, 0, none⟩)] 99) := by
  have hu24 := Tryd.underlying24
  go_enter Tryd.func61, Tryd.ntmps61
  go_wp2
  go_ret
  exact ⟨rfl, rfl⟩

theorem exists_least (P : Nat → Prop) (h : ∃ n, P n) : ∃ n, P n ∧ ∀ m, P m → n ≤ m := by
  obtain ⟨n, hn⟩ := h
  induction n using Nat.strongRecOn with
  | _ n ih =>
    by_cases hm : ∃ m, m < n ∧ P m
    · obtain ⟨m, hlt, hP⟩ := hm
      exact ih m hlt hP
    · exact ⟨n, hn, fun m hP => by
        rcases Nat.lt_or_ge m n with h | h
        · exact absurd ⟨m, h, hP⟩ hm
        · exact h⟩
open Classical in
noncomputable def least (P : Nat → Prop) : Nat := if h : ∃ n, P n then Classical.choose (exists_least P h) else 0
theorem least_spec {P : Nat → Prop} (h : ∃ n, P n) : P (least P) ∧ ∀ m, P m → least P ≤ m := by
  unfold least
  rw [dif_pos h]
  exact Classical.choose_spec (exists_least P h)

theorem IterKeeps.below {n₀ : Nat} {W W' : World} (h : Below W.heap.size W W') : IterKeeps n₀ W W' := ⟨h.os, h.tape, h.output, h.size, fun k hk => .inl (h.block k hk)⟩

theorem heap_setCell_same {W : World} {b : Nat} {c : Array Value} {t : TypeId} {f : Nat × Nat} (h : W.heap[b]? = some (.cells c t f)) (j : Nat) (v : Value) : (W.setCell ⟨b, j, none⟩ v).heap[b]? = some (.cells (c.setIfInBounds j v) t f) := by
  simp [World.setCell, Array.getElem?_modify, h]
/-- A struct of four cells stored. -/
theorem setRow4 {W : World} {b : Nat} {a0 a1 a2 a3 : Value} {t : TypeId} {f : Nat × Nat} (h : W.heap[b]? = some (.cells #[a0, a1, a2, a3] t f)) (v0 v1 v2 v3 : Value) :
    ((((W.setCell ⟨b, 0, none⟩ v0).setCell ⟨b, 1, none⟩ v1).setCell ⟨b, 2, none⟩ v2).setCell ⟨b, 3, none⟩ v3).heap[b]? = some (.cells #[v0, v1, v2, v3] t f) ∧
    ∀ k, k ≠ b → ((((W.setCell ⟨b, 0, none⟩ v0).setCell ⟨b, 1, none⟩ v1).setCell ⟨b, 2, none⟩ v2).setCell ⟨b, 3, none⟩ v3).heap[k]? = W.heap[k]? := by
  refine ⟨?_, fun k hk => ?_⟩
  · exact heap_setCell_same (heap_setCell_same (heap_setCell_same (heap_setCell_same h 0 v0) 1 v1) 2 v2) 3 v3
  · rw [Below.heap_setCell _ _ _ _ hk, Below.heap_setCell _ _ _ _ hk, Below.heap_setCell _ _ _ _ hk, Below.heap_setCell _ _ _ _ hk]
theorem IterKeeps.row4 {n₀ : Nat} {W : World} {b : Nat} {a0 a1 a2 a3 : Value} {f : Nat × Nat} (h : W.heap[b]? = some (.cells #[a0, a1, a2, a3] 24 f)) (hb : n₀ ≤ b) (v0 v1 v2 v3 : Value) :
    IterKeeps n₀ W ((((W.setCell ⟨b, 0, none⟩ v0).setCell ⟨b, 1, none⟩ v1).setCell ⟨b, 2, none⟩ v2).setCell ⟨b, 3, none⟩ v3) := by
  refine ⟨rfl, rfl, rfl, by simp, fun k hk => ?_⟩
  by_cases e : k = b
  · subst e
    exact .inr ⟨hb, _, f, h⟩
  · exact .inl ((setRow4 h v0 v1 v2 v3).2 k e)

/-- How far the iterator has come. -/
def SpineInv (bt bq b2 : Nat) (wb : World) (xs : List S24) (rest : S24) (J : Nat → World → Prop) (W : World) (d : Nat) : Prop :=
  ∃ i k y A c g, i + d = xs.length ∧ spine k y = some (xs.drop i, rest) ∧ J i W ∧ W.heap[bt]? = some (.cells #[.int .u8 y.f0, .string y.f1, .int .i64 y.f2, .slice A y.f3.length c] 24 (0, 0)) ∧ y.f3.length ≤ c ∧ Kd.C k24 wb A y.f3.length y.f3 ∧
    W.heap[bq]? = some (.cells #[.pointer (some ⟨b2, 0, none⟩)] 99 (0, 0)) ∧ W.heap[b2]? = some (.cells g 24 (0, 0)) ∧ g.size = 4

theorem consB_f (y : S24) : write_cons.f y.f0 y.f1 y.f2 y.f3 = some (consB y) := by
  unfold write_cons.f consB
  by_cases h0 : y.f0 = 4
  · rw [if_pos h0, ByteArray.toList_eq]
    by_cases h1 : bl y.f1 = [46]
    · rw [if_pos h1, h0, h1]
      have : ((y.f3.length : Int) == 2) = (y.f3.length == 2) := by
        rw [Bool.eq_iff_iff, beq_iff_eq, beq_iff_eq]
        omega
      rw [this]
      rfl
    · rw [if_neg h1, h0]
      have : (bl y.f1 == [46]) = false := by simpa using h1
      rw [this]
      rfl
  · rw [if_neg h0]
    have : (y.f0 == 4) = false := by simpa using h0
    rw [this]
    rfl
theorem spine_yes {k : Nat} {y rest : S24} {l : List S24} (h : spine k y = some (l, rest)) (hc : consB y = true) : ∃ k' l', l = rd_T24 y.f3 0 :: l' ∧ spine k' (rd_T24 y.f3 1) = some (l', rest) := by
  cases k with
  | zero => simp [spine] at h
  | succ k =>
    simp only [spine, if_pos hc, Option.bind_eq_some_iff] at h
    obtain ⟨p, hp, h⟩ := h
    have h := Option.some.inj h
    injection h with h1 h2
    exact ⟨k, p.1, h1.symm, by rw [hp, ← h2]⟩
theorem spine_no {k : Nat} {y rest : S24} {l : List S24} (h : spine k y = some (l, rest)) (hc : consB y = false) : l = [] ∧ rest = y := by
  cases k with
  | zero => simp [spine] at h
  | succ k =>
    rw [spine, if_neg (by rw [hc]; decide)] at h
    have h := Option.some.inj h
    injection h with h1 h2
    exact ⟨h1.symm, h2.symm⟩
theorem consB_len {y : S24} (h : consB y = true) : y.f3.length = 2 := by
  unfold consB at h
  simp at h
  exact h.2

set_option maxHeartbeats 2000000 in
set_option maxRecDepth 100000 in
theorem elements_iter (n₀ bt bq b2 k0 : Nat) (wb w : World) (x rest : S24) (A : Option Addr) (c : Nat) (g : Array Value) (xs : List S24) (h1 : wb.heap.size ≤ n₀) (hwb : Below wb.heap.size wb w)
    (ht : w.heap[bt]? = some (.cells #[.int .u8 x.f0, .string x.f1, .int .i64 x.f2, .slice A x.f3.length c] 24 (0, 0))) (hc : x.f3.length ≤ c) (hC : Kd.C k24 wb A x.f3.length x.f3)
    (hq : w.heap[bq]? = some (.cells #[.pointer (some ⟨b2, 0, none⟩)] 99 (0, 0))) (h2 : w.heap[b2]? = some (.cells g 24 (0, 0))) (hg : g.size = 4) (hbt : n₀ ≤ bt) (hb2 : n₀ ≤ b2) (hne : bt ≠ b2)
    (hsp : spine k0 x = some (xs, rest)) :
    IterOK 101 #[.pointer (some ⟨bt, 0, none⟩), .pointer (some ⟨bq, 0, none⟩)] n₀ w xs.length (fun i v => ∃ h : i < xs.length, TermV wb xs[i] v)
      (fun W => ∃ A c, W.heap[b2]? = some (.cells #[.int .u8 rest.f0, .string rest.f1, .int .i64 rest.f2, .slice A rest.f3.length c] 24 (0, 0)) ∧ rest.f3.length ≤ c ∧ Kd.C k24 wb A rest.f3.length rest.f3) := by
  intro l bp J hbp hJ1 hJ2 hJ3 n W1 hJ0 hk1
  have hts := (Array.getElem?_eq_some_iff.1 ht).1
  have hqs := (Array.getElem?_eq_some_iff.1 hq).1
  have h2s := (Array.getElem?_eq_some_iff.1 h2).1
  have inv0 : SpineInv bt bq b2 wb xs rest J W1 xs.length := ⟨0, k0, x, A, c, g, by omega, hsp, hJ0, (hk1 bt hts).trans ht, hc, hC, (hk1 bq hqs).trans hq, (hk1 b2 h2s).trans h2, hg⟩
  refine callsIn_of_wp Tryd.func101 rfl trivial ?_ rfl
  simp only [Tryd.ntmps101, List.size_toArray, List.length_cons, List.length_nil, Nat.reduceAdd, Nat.reduceSub, Array.replicate_succ, Array.replicate_zero, List.push_toArray, List.append_toArray, List.nil_append, List.cons_append]
  have hu24 := Tryd.underlying24
  gi_wp2
  gi_loopw [] (fun wr => ∃ d, SpineInv bt bq b2 wb xs rest J wr d) (fun wr => least (SpineInv bt bq b2 wb xs rest J wr))
  case atStart => exact ⟨_, inv0⟩
  case round =>
    obtain ⟨hinv, hmin⟩ := least_spec hrel
    obtain ⟨i, k, y, Ay, cy, gy, hid, hspy, hJ, hty, hcy, hCy, hqy, h2y, hgy⟩ := hinv
    obtain ⟨hbW, hsW⟩ := hJ2 i wr hJ
    have t0 : wr.cell? ⟨bt, 0, none⟩ = some (.int .u8 y.f0) := Lib.cell_of_heap hty 0
    have t1 : wr.cell? ⟨bt, 1, none⟩ = some (.string y.f1) := Lib.cell_of_heap hty 1
    have t2 : wr.cell? ⟨bt, 2, none⟩ = some (.int .i64 y.f2) := Lib.cell_of_heap hty 2
    have t3 : wr.cell? ⟨bt, 3, none⟩ = some (.slice Ay y.f3.length cy) := Lib.cell_of_heap hty 3
    have hbb : Below wb.heap.size wb wr := hwb.trans (hbW.mono h1)
    have hCr := Kd.C_below hCy hbb
    have hcons := Lib.hid (consB_f y)
    have hcall := Lib.hid (callsIn_wide (n := n - 1).2 (write_cons.calls y.f0 y.f1 y.f2 Ay cy y.f3 (consB y) wr hCr hcy hcons.out))
    have hJs : ∀ W', Below wr.heap.size wr W' → J i W' := fun W' h => hJ1 i wr W' hJ (IterKeeps.below h)
    have hbts := (Array.getElem?_eq_some_iff.1 hty).1
    have hbqs := (Array.getElem?_eq_some_iff.1 hqy).1
    have hb2s := (Array.getElem?_eq_some_iff.1 h2y).1
    have hqt : bq ≠ bt := by
      rintro rfl
      rw [hqy] at hty
      cases hty
    gi_wp2_with fail
    refine ⟨trivial, fun h => absurd h (by simp [Fence.wide]), ?_⟩
    refine hcall.out.mono ?_
    rintro e w3 ⟨rfl, hb3⟩
    cases hcb : consB y with
    | true =>
      obtain ⟨k', l', hl', hsp'⟩ := spine_yes hspy hcb
      have hlen2 := consB_len hcb
      have hlt : i < xs.length := by
        rcases Nat.lt_or_ge i xs.length with h | h
        · exact h
        · rw [List.drop_eq_nil_iff.2 h] at hl'; cases hl'
      have hdr := List.drop_eq_getElem_cons hlt
      rw [hl'] at hdr
      have hx0 : rd_T24 y.f3 0 = xs[i] := (List.cons.inj hdr).1
      have hx1 : l' = xs.drop (i + 1) := (List.cons.inj hdr).2
      subst hx1
      obtain ⟨ad, A0, c0, hAy, e00, e01, e02, e03, hc0, hC0⟩ := at_T24 hCy 0 (by omega) (by omega)
      obtain ⟨ad', A1, c1, hAy', e10, e11, e12, e13, hc1, hC1⟩ := at_T24 hCy 1 (by omega) (by omega)
      rw [hAy] at hAy'
      obtain rfl := Option.some.inj hAy'
      subst hAy
      rw [hx0] at e00 e01 e02 e03 hc0 hC0
      have HCB := Lib.hid hcb
      clear hcb
      have u0 : w3.cell? ⟨bt, 0, none⟩ = some (.int .u8 y.f0) := Lib.cell_of_heap ((hb3.block bt hbts).trans hty) 0
      have u1 : w3.cell? ⟨bt, 1, none⟩ = some (.string y.f1) := Lib.cell_of_heap ((hb3.block bt hbts).trans hty) 1
      have u2 : w3.cell? ⟨bt, 2, none⟩ = some (.int .i64 y.f2) := Lib.cell_of_heap ((hb3.block bt hbts).trans hty) 2
      have u3 : w3.cell? ⟨bt, 3, none⟩ = some (.slice (some ad) y.f3.length cy) := Lib.cell_of_heap ((hb3.block bt hbts).trans hty) 3
      have hbb3 : Below wb.heap.size wb w3 := hbb.trans (hb3.mono hbb.size)
      have g00 := (hbb3.cell (World.block_lt_of_cell? wb _ e00)).trans e00
      have g01 := (hbb3.cell (World.block_lt_of_cell? wb _ e01)).trans e01
      have g02 := (hbb3.cell (World.block_lt_of_cell? wb _ e02)).trans e02
      have g03 := (hbb3.cell (World.block_lt_of_cell? wb _ e03)).trans e03
      rw [hlen2] at u3
      rw [show ad.add ((0 : Int).toNat * 4) = ad from rfl] at g00 g01 g02 g03
      clear t0 t1 t2 t3
      have hV : TermV wb xs[i] (.agg #[.int .u8 xs[i].f0, .string xs[i].f1, .int .i64 xs[i].f2, .slice A0 xs[i].f3.length c0]) := ⟨A0, c0, rfl, hc0, hC0⟩
      obtain ⟨fn, tmps, assign, body, hy, hR⟩ := hJ3 (n - 1) i _ w3 hlt (hJs w3 hb3) ⟨hlt, hV⟩
      have HR := Lib.hid hR
      clear hR
      gi_wp2_with fail
      refine ⟨fun h => absurd h (by simp [Fence.wide]), ?_⟩
      refine HR.out.mono ?_
      rintro e w5 ⟨rfl, hJ5, hk5⟩
      obtain ⟨hbW5, hsW5⟩ := hJ2 (i + 1) w5 hJ5
      have hbb5 : Below wb.heap.size wb w5 := hwb.trans (hbW5.mono h1)
      have hty5 := hk5.2 bt _ _ _ ((hb3.block bt hbts).trans hty) (by decide) (by omega)
      have hqy5 := hk5.2 bq _ _ _ ((hb3.block bq hbqs).trans hqy) (by decide) (by omega)
      have h2y5 := hk5.2 b2 _ _ _ ((hb3.block b2 hb2s).trans h2y) (by decide) (by omega)
      have v3 : w5.cell? ⟨bt, 3, none⟩ = some (.slice (some ad) y.f3.length cy) := Lib.cell_of_heap hty5 3
      have v0 : w5.cell? ⟨bt, 0, none⟩ = some (.int .u8 y.f0) := Lib.cell_of_heap hty5 0
      have v1 : w5.cell? ⟨bt, 1, none⟩ = some (.string y.f1) := Lib.cell_of_heap hty5 1
      have v2 : w5.cell? ⟨bt, 2, none⟩ = some (.int .i64 y.f2) := Lib.cell_of_heap hty5 2
      rw [hlen2] at v3
      have fz0 : w5.frozen? ⟨bt, 0, none⟩ = false := Lib.frozen_of_heap hty5 0
      have fz1 : w5.frozen? ⟨bt, 1, none⟩ = false := Lib.frozen_of_heap hty5 1
      have fz2 : w5.frozen? ⟨bt, 2, none⟩ = false := Lib.frozen_of_heap hty5 2
      have fz3 : w5.frozen? ⟨bt, 3, none⟩ = false := Lib.frozen_of_heap hty5 3
      have g10 := (hbb5.cell (World.block_lt_of_cell? wb _ e10)).trans e10
      have g11 := (hbb5.cell (World.block_lt_of_cell? wb _ e11)).trans e11
      have g12 := (hbb5.cell (World.block_lt_of_cell? wb _ e12)).trans e12
      have g13 := (hbb5.cell (World.block_lt_of_cell? wb _ e13)).trans e13
      rw [show ad.add ((1 : Int).toNat * 4) = ⟨ad.block, ad.off + 4, none⟩ from rfl] at g10 g11 g12 g13
      clear u0 u1 u2 u3 g00 g01 g02 g03 hy
      gi_wp2_with fail
      have hrow := setRow4 hty5 (.int .u8 (rd_T24 y.f3 1).f0) (.string (rd_T24 y.f3 1).f1) (.int .i64 (rd_T24 y.f3 1).f2) (.slice A1 (rd_T24 y.f3 1).f3.length c1)
      have hnew : SpineInv bt bq b2 wb xs rest J _ (xs.length - (i + 1)) :=
        ⟨i + 1, k', rd_T24 y.f3 1, A1, c1, gy, by omega, hsp', hJ1 _ _ _ hJ5 (IterKeeps.row4 hty5 hbt (.int .u8 (rd_T24 y.f3 1).f0) (.string (rd_T24 y.f3 1).f1) (.int .i64 (rd_T24 y.f3 1).f2) (.slice A1 (rd_T24 y.f3 1).f3.length c1)), hrow.1, hc1, hC1,
          (hrow.2 bq hqt).trans hqy5, (hrow.2 b2 (Ne.symm hne)).trans h2y5, hgy⟩
      exact ⟨⟨_, hnew⟩, Nat.lt_of_le_of_lt ((least_spec ⟨_, hnew⟩).2 _ hnew) (by omega)⟩
    | false =>
      obtain ⟨hnil, rfl⟩ := spine_no hspy hcb
      have him : i = xs.length := by
        have := List.drop_eq_nil_iff.1 hnil
        omega
      have HCB := Lib.hid hcb
      clear hcb
      have hty3 := (hb3.block bt hbts).trans hty
      have hqy3 := (hb3.block bq hbqs).trans hqy
      have h2y3 := (hb3.block b2 hb2s).trans h2y
      have u0 : w3.cell? ⟨bt, 0, none⟩ = some (.int .u8 rest.f0) := Lib.cell_of_heap hty3 0
      have u1 : w3.cell? ⟨bt, 1, none⟩ = some (.string rest.f1) := Lib.cell_of_heap hty3 1
      have u2 : w3.cell? ⟨bt, 2, none⟩ = some (.int .i64 rest.f2) := Lib.cell_of_heap hty3 2
      have u3 : w3.cell? ⟨bt, 3, none⟩ = some (.slice Ay rest.f3.length cy) := Lib.cell_of_heap hty3 3
      have q0 : w3.cell? ⟨bq, 0, none⟩ = some (.pointer (some ⟨b2, 0, none⟩)) := Lib.cell_of_heap hqy3 0
      obtain ⟨g0, g1, g2, g3, rfl⟩ : ∃ g0 g1 g2 g3, gy = #[g0, g1, g2, g3] := by
        rcases gy with ⟨l⟩
        match l, hgy with
        | [g0, g1, g2, g3], _ => exact ⟨g0, g1, g2, g3, rfl⟩
      have z0 : w3.cell? ⟨b2, 0, none⟩ = some g0 := Lib.cell_of_heap h2y3 0
      have z1 : w3.cell? ⟨b2, 1, none⟩ = some g1 := Lib.cell_of_heap h2y3 1
      have z2 : w3.cell? ⟨b2, 2, none⟩ = some g2 := Lib.cell_of_heap h2y3 2
      have z3 : w3.cell? ⟨b2, 3, none⟩ = some g3 := Lib.cell_of_heap h2y3 3
      have fz0 : w3.frozen? ⟨b2, 0, none⟩ = false := Lib.frozen_of_heap h2y3 0
      have fz1 : w3.frozen? ⟨b2, 1, none⟩ = false := Lib.frozen_of_heap h2y3 1
      have fz2 : w3.frozen? ⟨b2, 2, none⟩ = false := Lib.frozen_of_heap h2y3 2
      have fz3 : w3.frozen? ⟨b2, 3, none⟩ = false := Lib.frozen_of_heap h2y3 3
      clear t0 t1 t2 t3
      gi_wp2_with fail
      go_end0
      have hrow := setRow4 h2y3 (.int .u8 rest.f0) (.string rest.f1) (.int .i64 rest.f2) (.slice Ay rest.f3.length cy)
      refine ⟨⟨_, rfl⟩, ?_, Ay, cy, hrow.1, hcy, hCy⟩
      rw [← him]
      exact hJ1 _ _ _ (hJs w3 hb3) (IterKeeps.row4 h2y3 hb2 _ _ _ _)
end Go.Proofs.YthnjdfblappkfaaDoor
end
section
/-
  write.text: the walk, kind by kind.
-/
namespace Go.Proofs.YthnjdfblappkfaaDoor
open Go.RowKit Go.Sort Go.Proofs.YthnjdfblappkfaaDoorW.PrintWords Go.Proofs.YthnjdfblappkfaaDoorW.PrintLast Go.Proofs.YthnjdfblappkfaaDoorW.PrintMore Go.Proofs.YthnjdfblappkfaaDoor.P

theorem app_str (a b : List UInt8) : (⟨a.toArray⟩ : ByteArray) ++ (⟨b.toArray⟩ : ByteArray) = ⟨(a ++ b).toArray⟩ := by
  apply bl_ext
  simp [bl]
theorem below_grow2 (w : World) (k : Nat) (os : Array Obj) : Below w.heap.size w (grow (w.drewN k) os) :=
  ⟨rfl, rfl, rfl, by simp [grow], fun j hj => by simp [grow, Array.getElem?_append_left, hj]⟩
theorem formatInt_calls (n : Int) (h0 : -9223372036854775808 ≤ n) (h1 : n ≤ 9223372036854775807) (w : World) (hL : LaidW w) :
    Calls Tryd.prog 58 #[.int .i64 n, .int .i64 10] w fun e w' => e = .returned (.string ⟨(Lib.itoa n).toArray⟩) ∧ Below w.heap.size w w' := by
  refine (Tryd.strconv_FormatInt_10 n h0 h1 w hL.pow).mono (fun e w' h => ⟨h.1, ?_⟩)
  obtain ⟨k, os, rfl⟩ := h.2
  exact below_grow2 w k os

set_option maxHeartbeats 4000000 in
set_option maxRecDepth 100000 in
theorem text_var (f1 : ByteArray) (f2 : Int) (A : Option Addr) (n c : Nat) (w : World) (hL : LaidW w) (hlo : -9223372036854775808 ≤ f2) (hhi : f2 ≤ 9223372036854775807) :
    Calls Tryd.prog 38 #[.agg #[.int .u8 1, .string f1, .int .i64 f2, .slice A n c]] w fun e w' => e = .returned (.string ⟨(95 :: Lib.itoa f2).toArray⟩) ∧ Below w.heap.size w w' := by
  have hu24 := Tryd.underlying24
  have hbx : Below w.heap.size w (w.alloc (.cells #[.int .u8 1, .string f1, .int .i64 f2, .slice A n c] 24)) := (Below.refl _ w).alloc (Nat.le_refl _) _
  have hL1 := hL.below hbx
  have hil : (Lib.itoa f2).length ≤ 21 := Lib.itoa_length_le f2 hlo hhi
  go_enter Tryd.func38, Tryd.ntmps38
  go_wp2_with (go_at_call 58; refine (formatInt_calls f2 hlo hhi _ hL1).mono ?_; rintro e w1 ⟨rfl, hb1⟩)
  go_ret
  exact ⟨rfl, hbx.trans (hb1.mono hbx.size)⟩

set_option maxHeartbeats 4000000 in
set_option maxRecDepth 100000 in
theorem text_int (f1 : ByteArray) (f2 : Int) (A : Option Addr) (n c : Nat) (w : World) (hL : LaidW w) (hlo : -9223372036854775808 ≤ f2) (hhi : f2 ≤ 9223372036854775807) :
    Calls Tryd.prog 38 #[.agg #[.int .u8 2, .string f1, .int .i64 f2, .slice A n c]] w fun e w' => e = .returned (.string ⟨(Lib.itoa f2).toArray⟩) ∧ Below w.heap.size w w' := by
  have hu24 := Tryd.underlying24
  have hbx : Below w.heap.size w (w.alloc (.cells #[.int .u8 2, .string f1, .int .i64 f2, .slice A n c] 24)) := (Below.refl _ w).alloc (Nat.le_refl _) _
  have hL1 := hL.below hbx
  go_enter Tryd.func38, Tryd.ntmps38
  go_wp2_with (go_at_call 58; refine (formatInt_calls f2 hlo hhi _ hL1).mono ?_; rintro e w1 ⟨rfl, hb1⟩)
  go_ret
  exact ⟨rfl, hbx.trans (hb1.mono hbx.size)⟩

set_option maxHeartbeats 4000000 in
set_option maxRecDepth 100000 in
theorem text_atom (f1 : ByteArray) (f2 : Int) (A : Option Addr) (n c : Nat) (w : World) (hL : LaidW w) (hs : f1.size ≤ 200) :
    Calls Tryd.prog 38 #[.agg #[.int .u8 3, .string f1, .int .i64 f2, .slice A n c]] w fun e w' => e = .returned (.string ⟨(nameM (bl f1)).toArray⟩) ∧ Below w.heap.size w w' := by
  have hu24 := Tryd.underlying24
  have hbx : Below w.heap.size w (w.alloc (.cells #[.int .u8 3, .string f1, .int .i64 f2, .slice A n c] 24)) := (Below.refl _ w).alloc (Nat.le_refl _) _
  have hL1 := hL.below hbx
  go_enter Tryd.func38, Tryd.ntmps38
  go_wp2_with (go_at_call 17; refine (write_Name.walk f1 _ (by omega) hL1).mono ?_; rintro e w1 ⟨rfl, hb1⟩)
  go_ret
  exact ⟨rfl, hbx.trans (hb1.mono hbx.size)⟩

set_option maxHeartbeats 4000000 in
set_option maxRecDepth 100000 in
theorem text_cons {k : Nat} (hk : TextOK k) (k0 : Nat) (x rest : S24) (xs : List S24) (rs : List (List UInt8)) (A : Option Addr) (c : Nat) (w : World) (hL : LaidW w) (hc : x.f3.length ≤ c) (hC : Kd.C k24 w A x.f3.length x.f3)
    (hx0 : x.f0 = 4) (hcb : consB x = true) (hsp : spine k0 x = some (xs, rest)) (hrs : mapO (textF k) xs = some rs) (hsm : small rs) (r : List UInt8)
    (hr : (rest.f0 = 3 ∧ bl rest.f1 = [91, 93] ∧ r = 91 :: joinC rs ++ [93]) ∨ (¬ (rest.f0 = 3 ∧ bl rest.f1 = [91, 93]) ∧ ∃ q, textF k rest = some q ∧ q.length ≤ 1099511627776 ∧ r = 91 :: joinC rs ++ 124 :: q ++ [93])) :
    Calls Tryd.prog 38 #[.agg #[.int .u8 x.f0, .string x.f1, .int .i64 x.f2, .slice A x.f3.length c]] w fun e w' => e = .returned (.string ⟨r.toArray⟩) ∧ Below w.heap.size w w' := by
  have hu24 := Tryd.underlying24
  have HR := Lib.hid hr
  have H0 := Lib.hid hx0
  have HS := Lib.hid hsp
  have HM := Lib.hid hrs
  have k1 : (x.f0 == 1) = false := by rw [hx0]; rfl
  have k2 : (x.f0 == 2) = false := by rw [hx0]; rfl
  have k3 : (x.f0 == 3) = false := by rw [hx0]; rfl
  have HCB := Lib.hid hcb
  have hf := consB_f x
  rw [hcb] at hf
  have HF := Lib.hid hf
  clear hr hx0 hsp hrs hcb hf
  have hbx : Below w.heap.size w (w.alloc (.cells #[.int .u8 x.f0, .string x.f1, .int .i64 x.f2, .slice A x.f3.length c] 24)) := (Below.refl _ w).alloc (Nat.le_refl _) _
  have hL1 := hL.below hbx
  have hC1 := Kd.C_below hC hbx
  have hT := (MapKept.heap_alloc w (.cells #[.int .u8 x.f0, .string x.f1, .int .i64 x.f2, .slice A x.f3.length c] 24)).1
  have hsz1 : (w.alloc (.cells #[.int .u8 x.f0, .string x.f1, .int .i64 x.f2, .slice A x.f3.length c] 24)).heap.size = w.heap.size + 1 := World.size_alloc _ _
  go_enter Tryd.func38, Tryd.ntmps38
  go_wp2_with (first | (go_at_call 61; refine (elements_calls x A c w1.heap.size _).mono ?_; rintro e w3 ⟨rfl, rfl⟩) | (go_at_call 59; refine (write_cons.calls x.f0 x.f1 x.f2 A c x.f3 true _ hC1 hc HF.out).mono ?_; rintro e w1 ⟨rfl, hb1⟩; have hz1 := hb1.size; rw [hsz1] at hz1; have hT1 := (hb1.block w.heap.size (by rw [hsz1]; omega)).trans hT; have a0 := fun o : Obj => (World.cell?_alloc_some w1 ⟨w.heap.size, 0, none⟩ o (by rw [Lib.cell_of_heap hT1 0]; rfl)).trans (Lib.cell_of_heap hT1 0); have a1 := fun o : Obj => (World.cell?_alloc_some w1 ⟨w.heap.size, 1, none⟩ o (by rw [Lib.cell_of_heap hT1 1]; rfl)).trans (Lib.cell_of_heap hT1 1); have a2 := fun o : Obj => (World.cell?_alloc_some w1 ⟨w.heap.size, 2, none⟩ o (by rw [Lib.cell_of_heap hT1 2]; rfl)).trans (Lib.cell_of_heap hT1 2); have a3 := fun o : Obj => (World.cell?_alloc_some w1 ⟨w.heap.size, 3, none⟩ o (by rw [Lib.cell_of_heap hT1 3]; rfl)).trans (Lib.cell_of_heap hT1 3); simp only [List.getElem?_toArray, List.getElem?_cons_zero, List.getElem?_cons_succ] at a0 a1 a2 a3))
  have z0 : (w1.alloc (.cells #[.int .u8 0, .string ⟨#[]⟩, .int .i64 0, .slice none 0 0] 24)).heap.size = w1.heap.size + 1 := World.size_alloc _ _
  have z1 : ((w1.alloc (.cells #[.int .u8 0, .string ⟨#[]⟩, .int .i64 0, .slice none 0 0] 24)).alloc (.cells #[.int .u8 x.f0, .string x.f1, .int .i64 x.f2, .slice A x.f3.length c] 24)).heap.size = w1.heap.size + 2 := by rw [World.size_alloc, z0]
  have r2 := (Below.heap_alloc ((w1.alloc (.cells #[.int .u8 0, .string ⟨#[]⟩, .int .i64 0, .slice none 0 0] 24)).alloc (.cells #[.int .u8 x.f0, .string x.f1, .int .i64 x.f2, .slice A x.f3.length c] 24)) (.cells #[.pointer (some ⟨w1.heap.size, 0, none⟩)] 99) w1.heap.size (by omega)).trans
    ((Below.heap_alloc (w1.alloc (.cells #[.int .u8 0, .string ⟨#[]⟩, .int .i64 0, .slice none 0 0] 24)) (.cells #[.int .u8 x.f0, .string x.f1, .int .i64 x.f2, .slice A x.f3.length c] 24) w1.heap.size (by omega)).trans (MapKept.heap_alloc w1 (.cells #[.int .u8 0, .string ⟨#[]⟩, .int .i64 0, .slice none 0 0] 24)).1)
  have r1a : ((w1.alloc (.cells #[.int .u8 0, .string ⟨#[]⟩, .int .i64 0, .slice none 0 0] 24)).alloc (.cells #[.int .u8 x.f0, .string x.f1, .int .i64 x.f2, .slice A x.f3.length c] 24)).heap[w1.heap.size + 1]? = some (.cells #[.int .u8 x.f0, .string x.f1, .int .i64 x.f2, .slice A x.f3.length c] 24) := by
    have := (MapKept.heap_alloc (w1.alloc (.cells #[.int .u8 0, .string ⟨#[]⟩, .int .i64 0, .slice none 0 0] 24)) (.cells #[.int .u8 x.f0, .string x.f1, .int .i64 x.f2, .slice A x.f3.length c] 24)).1
    rwa [z0] at this
  have r1 := (Below.heap_alloc ((w1.alloc (.cells #[.int .u8 0, .string ⟨#[]⟩, .int .i64 0, .slice none 0 0] 24)).alloc (.cells #[.int .u8 x.f0, .string x.f1, .int .i64 x.f2, .slice A x.f3.length c] 24)) (.cells #[.pointer (some ⟨w1.heap.size, 0, none⟩)] 99) (w1.heap.size + 1) (by omega)).trans r1a
  have r0 := (MapKept.heap_alloc ((w1.alloc (.cells #[.int .u8 0, .string ⟨#[]⟩, .int .i64 0, .slice none 0 0] 24)).alloc (.cells #[.int .u8 x.f0, .string x.f1, .int .i64 x.f2, .slice A x.f3.length c] 24)) (.cells #[.pointer (some ⟨w1.heap.size, 0, none⟩)] 99)).1
  have b3 : Below w1.heap.size w1 (((w1.alloc (.cells #[.int .u8 0, .string ⟨#[]⟩, .int .i64 0, .slice none 0 0] 24)).alloc (.cells #[.int .u8 x.f0, .string x.f1, .int .i64 x.f2, .slice A x.f3.length c] 24)).alloc (.cells #[.pointer (some ⟨w1.heap.size, 0, none⟩)] 99)) :=
    (((Below.refl _ w1).alloc (Nat.le_refl _) _).alloc (by omega) _).alloc (by omega) _
  rw [z1] at r0
  generalize ((w1.alloc (.cells #[.int .u8 0, .string ⟨#[]⟩, .int .i64 0, .slice none 0 0] 24)).alloc (.cells #[.int .u8 x.f0, .string x.f1, .int .i64 x.f2, .slice A x.f3.length c] 24)).alloc (.cells #[.pointer (some ⟨w1.heap.size, 0, none⟩)] 99) = w3 at r0 r1 r2 b3 ⊢
  have hsz3 := (Array.getElem?_eq_some_iff.1 r0).1
  have hw3 : Below w.heap.size w w3 := (hbx.trans (hb1.mono hbx.size)).trans (b3.mono (by omega))
  refine (joined_calls hk 101 #[.pointer (some ⟨w1.heap.size + 1, 0, none⟩), .pointer (some ⟨w1.heap.size + 1 + 1, 0, none⟩)] w1.heap.size w w3 xs rs _ (fun _ _ => rfl) hL hw3 (by omega) b3.size HM.out hsm
    (elements_iter w1.heap.size (w1.heap.size + 1) (w1.heap.size + 1 + 1) w1.heap.size k0 w w3 x rest A c _ xs (by omega) hw3 r1 hc hC r0 r2 rfl (by omega) (Nat.le_refl _) (by omega) HS.out) (fun P Q h g => ?_)).mono ?_
  · obtain ⟨A', c', h1, h2, h3⟩ := h
    exact ⟨A', c', g _ _ _ h1, h2, h3⟩
  rintro e w4 ⟨rfl, hb4, Ar, cr, hrow, hcr, hCr⟩
  have hjl := hsm.2
  have y0 : w4.cell? ⟨w1.heap.size, 0, none⟩ = some (.int .u8 rest.f0) := Lib.cell_of_heap hrow 0
  have y1 : w4.cell? ⟨w1.heap.size, 1, none⟩ = some (.string rest.f1) := Lib.cell_of_heap hrow 1
  have y2 : w4.cell? ⟨w1.heap.size, 2, none⟩ = some (.int .i64 rest.f2) := Lib.cell_of_heap hrow 2
  have y3 : w4.cell? ⟨w1.heap.size, 3, none⟩ = some (.slice Ar rest.f3.length cr) := Lib.cell_of_heap hrow 3
  have hb04 : Below w.heap.size w w4 := hw3.trans (hb4.mono (by omega))
  have hrA := HR.out
  rcases hrA with ⟨hr0, hr1, hrr⟩ | ⟨hrn, q, hq, hql, hrr⟩
  · have n0 : (rest.f0 == 3) = true := by rw [hr0]; rfl
    have n1 : (rest.f1.toList == [91, 93]) = true := by rw [teq]; exact decide_eq_true hr1
    have n0' : (rest.f0 != 3) = false := by rw [hr0]; rfl
    have HRR := Lib.hid hrr
    clear hr0 hr1 hrr a0 a1 a2 a3
    go_wp2_with fail
    go_ret
    refine ⟨?_, hb04⟩
    show Ending.returned (Value.string ((⟨[91].toArray⟩ ++ ⟨(joinC rs).toArray⟩) ++ ⟨[93].toArray⟩)) = _
    rw [app_str, app_str, HRR.out]
    rfl
  · have hL4 := hL.below hb04
    have hV4 : TermV w4 rest (.agg #[.int .u8 rest.f0, .string rest.f1, .int .i64 rest.f2, .slice Ar rest.f3.length cr]) := TermV.below ⟨Ar, cr, rfl, hcr, hCr⟩ hb04
    have HQ := Lib.hid hq
    have HRR := Lib.hid hrr
    by_cases h3 : rest.f0 = 3
    · have n0 : (rest.f0 == 3) = true := by rw [h3]; rfl
      have n0' : (rest.f0 != 3) = false := by rw [h3]; rfl
      have n1 : (rest.f1.toList == [91, 93]) = false := by rw [teq]; exact decide_eq_false (fun h => hrn ⟨h3, h⟩)
      clear h3 hrr hq hrn a0 a1 a2 a3
      go_wp2_with (go_at_call 38; refine (hk rest _ q _ hL4 hV4 HQ.out).mono ?_; rintro e w5 ⟨rfl, hb5⟩)
      go_ret
      refine ⟨?_, hb04.trans (hb5.mono hb04.size)⟩
      show Ending.returned (Value.string (((⟨[91].toArray⟩ ++ ⟨(joinC rs).toArray⟩) ++ (⟨[124].toArray⟩ ++ ⟨q.toArray⟩)) ++ ⟨[93].toArray⟩)) = _
      rw [app_str, app_str, app_str, app_str, HRR.out]
      simp
    · have n0 : (rest.f0 == 3) = false := by simpa using h3
      have n0' : (rest.f0 != 3) = true := by simpa using h3
      clear h3 hrr hq hrn a0 a1 a2 a3
      go_wp2_with (go_at_call 38; refine (hk rest _ q _ hL4 hV4 HQ.out).mono ?_; rintro e w5 ⟨rfl, hb5⟩)
      go_ret
      refine ⟨?_, hb04.trans (hb5.mono hb04.size)⟩
      show Ending.returned (Value.string (((⟨[91].toArray⟩ ++ ⟨(joinC rs).toArray⟩) ++ (⟨[124].toArray⟩ ++ ⟨q.toArray⟩)) ++ ⟨[93].toArray⟩)) = _
      rw [app_str, app_str, app_str, app_str, HRR.out]
      simp
end Go.Proofs.YthnjdfblappkfaaDoor
end
section
/-
  write.text: structures; and the whole by induction.
-/
namespace Go.Proofs.YthnjdfblappkfaaDoor
open Go.RowKit Go.Sort Go.Proofs.YthnjdfblappkfaaDoorW.PrintWords Go.Proofs.YthnjdfblappkfaaDoorW.PrintLast Go.Proofs.YthnjdfblappkfaaDoorW.PrintMore Go.Proofs.YthnjdfblappkfaaDoor.P

set_option maxRecDepth 100000 in
theorem all_joined {k : Nat} (hk : TextOK k) (xs : List S24) (rs : List (List UInt8)) (A : Option Addr) (c bl : Nat) (wb w : World) (hL : LaidW wb) (hwb : Below wb.heap.size wb w) (hC : Kd.C k24 wb A xs.length xs)
    (hrs : mapO (textF k) xs = some rs) (hsm : small rs) (hbl : w.heap[bl]? = some (.cells #[.slice A xs.length c] 22 (0, 0))) :
    Calls Tryd.prog 60 #[.func (.func 102) #[] #[.pointer (some ⟨bl, 0, none⟩)]] w fun e w' => e = .returned (.string ⟨(joinC rs).toArray⟩) ∧ Below w.heap.size w w' := by
  have hlen := (mapO_get _ _ _ hrs).1
  have hs := hsm.1
  exact (joined_calls hk 102 #[.pointer (some ⟨bl, 0, none⟩)] w.heap.size wb w xs rs (fun _ => True) (fun _ _ => rfl) hL hwb hwb.size (Nat.le_refl _) hrs hsm
    (all_iter w.heap.size bl wb w A c xs hwb.size hwb hbl hC (by omega)) (fun _ _ _ _ => trivial)).mono (fun e w' h => ⟨h.1, h.2.1⟩)

theorem nameM_len (l : List UInt8) : (nameM l).length ≤ 2 * l.length + 2 := by
  unfold nameM
  split
  · omega
  · unfold quotedL
    have := flat_len l
    simp only [List.length_cons, List.length_append, List.length_nil]
    omega
theorem quotedL_len (l : List UInt8) : (quotedL l).length ≤ 2 * l.length + 2 := by
  unfold quotedL
  have := flat_len l
  simp only [List.length_cons, List.length_append, List.length_nil]
  omega

set_option maxHeartbeats 8000000 in
set_option maxRecDepth 100000 in
theorem text_struct {k : Nat} (hk : TextOK k) (x : S24) (rs : List (List UInt8)) (A : Option Addr) (c : Nat) (w : World) (hL : LaidW w) (hc : x.f3.length ≤ c) (hC : Kd.C k24 w A x.f3.length x.f3)
    (hnm : x.f1.size ≤ 200) (h1 : x.f0 ≠ 1) (h2 : x.f0 ≠ 2) (h3 : x.f0 ≠ 3) (hcb : consB x = false) (hn : ¬ bl x.f1 = [91, 93]) (hrs : mapO (textF k) x.f3 = some rs) (hsm : small rs) :
    Calls Tryd.prog 38 #[.agg #[.int .u8 x.f0, .string x.f1, .int .i64 x.f2, .slice A x.f3.length c]] w fun e w' => e = .returned (.string ⟨(nameM (bl x.f1) ++ 40 :: joinC rs ++ [41]).toArray⟩) ∧ Below w.heap.size w w' := by
  have hu24 := Tryd.underlying24
  have HM := Lib.hid hrs
  have k1 : (x.f0 == 1) = false := by simpa using h1
  have k2 : (x.f0 == 2) = false := by simpa using h2
  have k3 : (x.f0 == 3) = false := by simpa using h3
  have n1 : (x.f1.toList == [91, 93]) = false := by rw [teq]; exact decide_eq_false hn
  have hf := consB_f x
  rw [hcb] at hf
  have HF := Lib.hid hf
  clear hrs hcb hf h1 h2 h3 hn
  have hbx : Below w.heap.size w (w.alloc (.cells #[.int .u8 x.f0, .string x.f1, .int .i64 x.f2, .slice A x.f3.length c] 24)) := (Below.refl _ w).alloc (Nat.le_refl _) _
  have hC1 := Kd.C_below hC hbx
  have hT := (MapKept.heap_alloc w (.cells #[.int .u8 x.f0, .string x.f1, .int .i64 x.f2, .slice A x.f3.length c] 24)).1
  have hsz1 : (w.alloc (.cells #[.int .u8 x.f0, .string x.f1, .int .i64 x.f2, .slice A x.f3.length c] 24)).heap.size = w.heap.size + 1 := World.size_alloc _ _
  obtain ⟨nm, hnme⟩ : ∃ nm, nameM (bl x.f1) = nm := ⟨_, rfl⟩
  have hnl : nm.length ≤ 402 := by
    have := nameM_len (bl x.f1)
    rw [bl_length, hnme] at this
    omega
  have hName : ∀ W, LaidW W → Calls Tryd.prog 17 #[.string x.f1] W fun e w' => e = .returned (.string ⟨nm.toArray⟩) ∧ Below W.heap.size W w' := by
    intro W h
    rw [← hnme]
    exact write_Name.walk x.f1 W (by omega) h
  rw [hnme]
  clear hnme
  have hjl := hsm.2
  go_enter Tryd.func38, Tryd.ntmps38
  go_wp2_with (go_at_call 59; refine (write_cons.calls x.f0 x.f1 x.f2 A c x.f3 false _ hC1 hc HF.out).mono ?_; rintro e w1 ⟨rfl, hb1⟩; have hz1 := hb1.size; rw [hsz1] at hz1; have hT1 := (hb1.block w.heap.size (by rw [hsz1]; omega)).trans hT; have a1 : w1.cell? ⟨w.heap.size, 1, none⟩ = some (.string x.f1) := Lib.cell_of_heap hT1 1)
  have a3 : w1.cell? ⟨w.heap.size, 3, none⟩ = some (.slice A x.f3.length c) := Lib.cell_of_heap hT1 3
  have hb01 : Below w.heap.size w w1 := hbx.trans (hb1.mono hbx.size)
  have hL1 := hL.below hb01
  go_region_held (fun W' => W'.cell? ⟨w.heap.size, 1, none⟩ = some (.string x.f1) ∧ W'.cell? ⟨w.heap.size, 3, none⟩ = some (.slice A x.f3.length c))
    (first | exact ⟨a1, a3⟩ | exact ⟨d1, d3⟩ | exact ⟨c1, c3⟩ | exact ⟨b1, b3⟩)
    (first
      | (go_at_call 17; refine (hName _ (hL1.below (Below.refl _ _).drew)).mono ?_; rintro e w2 ⟨rfl, hb2'⟩; have hb2 : Below w1.heap.size w1 w2 := ((Below.refl _ w1).drew).trans hb2'; have hz2 := hb2.size; have hT2 := (hb2.block w.heap.size (by omega)).trans hT1; have b1 := Lib.cell_of_heap hT2 1; have b3 := Lib.cell_of_heap hT2 3)
      | (go_at_call 62; refine (all_calls A x.f3.length c w2).mono ?_; rintro e w3 ⟨rfl, hw3⟩; have hT3 : w3.heap[w.heap.size]? = some (.cells #[.int .u8 x.f0, .string x.f1, .int .i64 x.f2, .slice A x.f3.length c] 24 (0, 0)) := (by rw [hw3]; exact (Below.heap_alloc w2 _ w.heap.size (by omega)).trans hT2); have c1 := Lib.cell_of_heap hT3 1; have c3 := Lib.cell_of_heap hT3 3; have hbl3 : w3.heap[w2.heap.size]? = some (.cells #[.slice A x.f3.length c] 22 (0, 0)) := (by rw [hw3]; exact (MapKept.heap_alloc w2 _).1); have hb3 : Below w2.heap.size w2 w3 := (by rw [hw3]; exact (Below.refl _ w2).alloc (Nat.le_refl _) _); clear hw3)
      | (go_at_call 60; refine (all_joined hk x.f3 rs A c w2.heap.size w w3 hL ((hb01.trans (hb2.mono hb01.size)).trans (hb3.mono (Nat.le_trans hb01.size hb2.size))) hC HM.out hsm hbl3).mono ?_; rintro e w4 ⟨rfl, hb4⟩; have hT4 := (hb4.block w.heap.size (by have := hb3.size; omega)).trans hT3; have d1 := Lib.cell_of_heap hT4 1; have d3 := Lib.cell_of_heap hT4 3))
  all_goals
    go_wp2
    go_ret
    refine ⟨?_, ((hb01.trans (hb2.mono hb01.size)).trans (hb3.mono (Nat.le_trans hb01.size hb2.size))).trans (hb4.mono (Nat.le_trans (Nat.le_trans hb01.size hb2.size) hb3.size))⟩
    show Ending.returned (Value.string (((⟨nm.toArray⟩ ++ ⟨[40].toArray⟩) ++ ⟨(joinC rs).toArray⟩) ++ ⟨[41].toArray⟩)) = _
    rw [app_str, app_str, app_str]
    simp
set_option maxHeartbeats 8000000 in
set_option maxRecDepth 100000 in
theorem text_brack {k : Nat} (hk : TextOK k) (x : S24) (rs : List (List UInt8)) (A : Option Addr) (c : Nat) (w : World) (hL : LaidW w) (hc : x.f3.length ≤ c) (hC : Kd.C k24 w A x.f3.length x.f3)
    (hnm : x.f1.size ≤ 200) (h1 : x.f0 ≠ 1) (h2 : x.f0 ≠ 2) (h3 : x.f0 ≠ 3) (hcb : consB x = false) (hn : bl x.f1 = [91, 93]) (hrs : mapO (textF k) x.f3 = some rs) (hsm : small rs) :
    Calls Tryd.prog 38 #[.agg #[.int .u8 x.f0, .string x.f1, .int .i64 x.f2, .slice A x.f3.length c]] w fun e w' => e = .returned (.string ⟨(quotedL (bl x.f1) ++ 40 :: joinC rs ++ [41]).toArray⟩) ∧ Below w.heap.size w w' := by
  have hu24 := Tryd.underlying24
  have HM := Lib.hid hrs
  have k1 : (x.f0 == 1) = false := by simpa using h1
  have k2 : (x.f0 == 2) = false := by simpa using h2
  have k3 : (x.f0 == 3) = false := by simpa using h3
  have n1 : (x.f1.toList == [91, 93]) = true := by rw [teq]; exact decide_eq_true hn
  have hf := consB_f x
  rw [hcb] at hf
  have HF := Lib.hid hf
  clear hrs hcb hf h1 h2 h3 hn
  have hbx : Below w.heap.size w (w.alloc (.cells #[.int .u8 x.f0, .string x.f1, .int .i64 x.f2, .slice A x.f3.length c] 24)) := (Below.refl _ w).alloc (Nat.le_refl _) _
  have hC1 := Kd.C_below hC hbx
  have hT := (MapKept.heap_alloc w (.cells #[.int .u8 x.f0, .string x.f1, .int .i64 x.f2, .slice A x.f3.length c] 24)).1
  have hsz1 : (w.alloc (.cells #[.int .u8 x.f0, .string x.f1, .int .i64 x.f2, .slice A x.f3.length c] 24)).heap.size = w.heap.size + 1 := World.size_alloc _ _
  obtain ⟨nm, hnme⟩ : ∃ nm, quotedL (bl x.f1) = nm := ⟨_, rfl⟩
  have hnl : nm.length ≤ 402 := by
    have := quotedL_len (bl x.f1)
    rw [bl_length, hnme] at this
    omega
  have hName : ∀ W, LaidW W → Calls Tryd.prog 42 #[.string x.f1] W fun e w' => e = .returned (.string ⟨nm.toArray⟩) ∧ Below W.heap.size W w' := by
    intro W _
    rw [← hnme]
    exact write_quoted.walk x.f1 W (by omega)
  rw [hnme]
  clear hnme
  have hjl := hsm.2
  go_enter Tryd.func38, Tryd.ntmps38
  go_wp2_with (go_at_call 59; refine (write_cons.calls x.f0 x.f1 x.f2 A c x.f3 false _ hC1 hc HF.out).mono ?_; rintro e w1 ⟨rfl, hb1⟩; have hz1 := hb1.size; rw [hsz1] at hz1; have hT1 := (hb1.block w.heap.size (by rw [hsz1]; omega)).trans hT; have a1 : w1.cell? ⟨w.heap.size, 1, none⟩ = some (.string x.f1) := Lib.cell_of_heap hT1 1)
  have a3 : w1.cell? ⟨w.heap.size, 3, none⟩ = some (.slice A x.f3.length c) := Lib.cell_of_heap hT1 3
  have hb01 : Below w.heap.size w w1 := hbx.trans (hb1.mono hbx.size)
  have hL1 := hL.below hb01
  go_region_held (fun W' => W'.cell? ⟨w.heap.size, 1, none⟩ = some (.string x.f1) ∧ W'.cell? ⟨w.heap.size, 3, none⟩ = some (.slice A x.f3.length c))
    (first | exact ⟨a1, a3⟩ | exact ⟨d1, d3⟩ | exact ⟨c1, c3⟩ | exact ⟨b1, b3⟩)
    (first
      | (go_at_call 42; refine (hName _ (hL1.below (Below.refl _ _).drew)).mono ?_; rintro e w2 ⟨rfl, hb2'⟩; have hb2 : Below w1.heap.size w1 w2 := ((Below.refl _ w1).drew).trans hb2'; have hz2 := hb2.size; have hT2 := (hb2.block w.heap.size (by omega)).trans hT1; have b1 := Lib.cell_of_heap hT2 1; have b3 := Lib.cell_of_heap hT2 3)
      | (go_at_call 62; refine (all_calls A x.f3.length c w2).mono ?_; rintro e w3 ⟨rfl, hw3⟩; have hT3 : w3.heap[w.heap.size]? = some (.cells #[.int .u8 x.f0, .string x.f1, .int .i64 x.f2, .slice A x.f3.length c] 24 (0, 0)) := (by rw [hw3]; exact (Below.heap_alloc w2 _ w.heap.size (by omega)).trans hT2); have c1 := Lib.cell_of_heap hT3 1; have c3 := Lib.cell_of_heap hT3 3; have hbl3 : w3.heap[w2.heap.size]? = some (.cells #[.slice A x.f3.length c] 22 (0, 0)) := (by rw [hw3]; exact (MapKept.heap_alloc w2 _).1); have hb3 : Below w2.heap.size w2 w3 := (by rw [hw3]; exact (Below.refl _ w2).alloc (Nat.le_refl _) _); clear hw3)
      | (go_at_call 60; refine (all_joined hk x.f3 rs A c w2.heap.size w w3 hL ((hb01.trans (hb2.mono hb01.size)).trans (hb3.mono (Nat.le_trans hb01.size hb2.size))) hC HM.out hsm hbl3).mono ?_; rintro e w4 ⟨rfl, hb4⟩; have hT4 := (hb4.block w.heap.size (by have := hb3.size; omega)).trans hT3; have d1 := Lib.cell_of_heap hT4 1; have d3 := Lib.cell_of_heap hT4 3))
  all_goals
    go_wp2
    go_ret
    refine ⟨?_, ((hb01.trans (hb2.mono hb01.size)).trans (hb3.mono (Nat.le_trans hb01.size hb2.size))).trans (hb4.mono (Nat.le_trans (Nat.le_trans hb01.size hb2.size) hb3.size))⟩
    show Ending.returned (Value.string (((⟨nm.toArray⟩ ++ ⟨[40].toArray⟩) ++ ⟨(joinC rs).toArray⟩) ++ ⟨[41].toArray⟩)) = _
    rw [app_str, app_str, app_str]
    simp

theorem textOK : ∀ k, TextOK k
  | 0 => fun x v r w _ _ hr => by simp [textF] at hr
  | k + 1 => by
    have hk := textOK k
    intro x v r w hL hV hr
    obtain ⟨A, c, rfl, hc, hC⟩ := hV
    unfold textF at hr
    by_cases hbd : x.f1.size ≤ 200 ∧ -9223372036854775808 ≤ x.f2 ∧ x.f2 ≤ 9223372036854775807
    rotate_left
    · rw [if_pos hbd] at hr; cases hr
    rw [if_neg (fun h => h hbd)] at hr
    obtain ⟨hnm, hlo, hhi⟩ := hbd
    by_cases c1 : x.f0 = 1
    · rw [if_pos c1] at hr
      obtain rfl := Option.some.inj hr
      rw [c1]
      exact text_var x.f1 x.f2 A _ c w hL hlo hhi
    rw [if_neg c1] at hr
    by_cases c2 : x.f0 = 2
    · rw [if_pos c2] at hr
      obtain rfl := Option.some.inj hr
      rw [c2]
      exact text_int x.f1 x.f2 A _ c w hL hlo hhi
    rw [if_neg c2] at hr
    by_cases c3 : x.f0 = 3
    · rw [if_pos c3] at hr
      obtain rfl := Option.some.inj hr
      rw [c3]
      exact text_atom x.f1 x.f2 A _ c w hL hnm
    rw [if_neg c3] at hr
    by_cases c5 : x.f0 ≠ 4 ∨ x.f3 = []
    · rw [if_pos c5] at hr; cases hr
    rw [if_neg c5] at hr
    by_cases c4 : consB x = true
    · rw [if_pos c4] at hr
      simp only [Option.bind_eq_some_iff] at hr
      obtain ⟨⟨xs, rest⟩, hsp, rs, hrs, hr⟩ := hr
      have hx0 : x.f0 = 4 := by
        unfold consB at c4
        simp at c4
        exact c4.1.1
      by_cases hsm : small rs
      · rw [if_pos hsm] at hr
        refine text_cons hk k x rest xs rs A c w hL hc hC hx0 c4 hsp hrs hsm r ?_
        by_cases hr3 : rest.f0 ≠ 3 ∨ bl rest.f1 ≠ [91, 93]
        · rw [if_pos hr3] at hr
          simp only [Option.bind_eq_some_iff] at hr
          obtain ⟨q, hq, hr⟩ := hr
          by_cases hql : q.length ≤ 1099511627776
          · rw [if_pos hql] at hr
            exact .inr ⟨fun h => hr3.elim (fun g => g h.1) (fun g => g h.2), q, hq, hql, (Option.some.inj hr).symm⟩
          · rw [if_neg hql] at hr; cases hr
        · rw [if_neg hr3] at hr
          have h3 : rest.f0 = 3 := Classical.byContradiction (fun h => hr3 (.inl h))
          have h4 : bl rest.f1 = [91, 93] := Classical.byContradiction (fun h => hr3 (.inr h))
          exact .inl ⟨h3, h4, (Option.some.inj hr).symm⟩
      · rw [if_neg hsm] at hr; cases hr
    · rw [if_neg c4] at hr
      simp only [Option.bind_eq_some_iff] at hr
      obtain ⟨rs, hrs, hr⟩ := hr
      have c4' : consB x = false := by simpa using c4
      by_cases hsm : small rs
      · rw [if_pos hsm] at hr
        by_cases hn : bl x.f1 = [91, 93]
        · rw [if_pos hn] at hr
          obtain rfl := Option.some.inj hr
          exact text_brack hk x rs A c w hL hc hC hnm c1 c2 c3 c4' hn hrs hsm
        · rw [if_neg hn] at hr
          obtain rfl := Option.some.inj hr
          exact text_struct hk x rs A c w hL hc hC hnm c1 c2 c3 c4' hn hrs hsm
      · rw [if_neg hsm] at hr; cases hr
end Go.Proofs.YthnjdfblappkfaaDoor
end
