/-
  term.Same: two terms are one.
-/
import Derived.Test.YthnjdfblappkfaaDoorApart
import Derived.Test.YthnjdfblappkfaaDoorMTerm
namespace Go.Proofs.YthnjdfblappkfaaDoor
open Go.RowKit Go.Proofs.YthnjdfblappkfaaDoorW.PrintWords Go.Proofs.YthnjdfblappkfaaDoorW.PrintLast Go.Proofs.YthnjdfblappkfaaDoorW.PrintMore Go.Proofs.YthnjdfblappkfaaDoor.P

mutual
/-- Two terms are one. -/
def sameT : S24 → S24 → Bool
  | ⟨a0, a1, a2, a3⟩, ⟨b0, b1, b2, b3⟩ => decide (a0 = b0) && (decide (bl a1 = bl b1) && (decide (a2 = b2) && sameL a3 b3))
def sameL : List S24 → List S24 → Bool
  | [], [] => true
  | [], _ :: _ => false
  | _ :: _, [] => false
  | x :: l, y :: m => sameT x y && sameL l m
end
theorem sameT_eq (x y : S24) : sameT x y = (decide (x.f0 = y.f0) && (decide (bl x.f1 = bl y.f1) && (decide (x.f2 = y.f2) && sameL x.f3 y.f3))) := by
  cases x; cases y; simp only [sameT]
mutual
theorem sameT_iff : ∀ x y : S24, sameT x y = true ↔ x = y
  | ⟨a0, a1, a2, a3⟩, ⟨b0, b1, b2, b3⟩ => by
    have := sameL_iff a3 b3
    simp only [sameT, Bool.and_eq_true, decide_eq_true_iff, this, P.S24.mk.injEq]
    constructor
    · rintro ⟨h0, h1, h2, h3⟩
      exact ⟨h0, bl_ext h1, h2, h3⟩
    · rintro ⟨h0, h1, h2, h3⟩
      exact ⟨h0, by rw [h1], h2, h3⟩
theorem sameL_iff : ∀ l m : List S24, sameL l m = true ↔ l = m
  | [], [] => by simp [sameL]
  | [], _ :: _ => by simp [sameL]
  | _ :: _, [] => by simp [sameL]
  | x :: l, y :: m => by
    have h1 := sameT_iff x y
    have h2 := sameL_iff l m
    simp only [sameL, Bool.and_eq_true, h1, h2, List.cons.injEq]
end

def SameOK (n : Nat) : Prop := ∀ (x y : S24) (v u : Value) (w : World), RefW.sizeT x ≤ n → TermV w x v → TermV w y u →
  Calls Tryd.prog 23 #[v, u] w fun e w' => e = .returned (.bool (sameT x y)) ∧ Below w.heap.size w w'

theorem same_prefix (xs ys : List S24) (i : Nat) (hx : i < xs.length) (hy : i < ys.length) (h : xs.take i = ys.take i) (b : Bool) (hb : sameT xs[i] ys[i] = b) :
    (b = true → xs.take (i + 1) = ys.take (i + 1)) ∧ (b = false → sameL xs ys = false) := by
  constructor
  · rintro rfl
    rw [List.take_succ_eq_append_getElem hx, List.take_succ_eq_append_getElem hy, h, (sameT_iff _ _).1 hb]
  · rintro rfl
    cases hs : sameL xs ys with
    | false => rfl
    | true =>
      have e := (sameL_iff _ _).1 hs
      subst e
      rw [(sameT_iff _ _).2 rfl] at hb
      cases hb

set_option maxHeartbeats 4000000 in
set_option maxRecDepth 100000 in
theorem EqualFunc_calls {n : Nat} (hn : SameOK n) (xs ys : List S24) (A B : Option Addr) (c d : Nat) (w : World) (hA : Kd.C k24 w A xs.length xs) (hB : Kd.C k24 w B ys.length ys) (hs : RefW.sizeTL xs ≤ n) (hlen : n ≤ 1000000) :
    Calls Tryd.prog 47 #[.slice A xs.length c, .slice B ys.length d, .func (.func 23) #[] #[]] w fun e w' => e = .returned (.bool (sameL xs ys)) ∧ Below w.heap.size w w' := by
  have hu24 := Tryd.underlying24
  by_cases hl : xs.length = ys.length
  · have hll : (((xs.length : Int) != (ys.length : Int))) = false := by simp [hl]
    have hxl := RefW.sizeTL_len xs
    have HL := Lib.hid hl
    clear hl
    go_enter Tryd.func47, Tryd.ntmps47
    go_wp2
    go_loopw [17] (fun p wr => ∃ i : Nat, p = .int .i64 i ∧ i ≤ xs.length ∧ xs.take i = ys.take i ∧ Below w.heap.size w wr) (fun p _ => xs.length - (intOf p).toNat)
    case atStart => exact ⟨0, rfl, Nat.zero_le _, rfl, Below.refl _ _⟩
    case round =>
      obtain ⟨i, rfl, hi, hpre, hbw⟩ := hrel
      by_cases hlt : i < xs.length
      · have hdd : decide ((i : Int) < (xs.length : Int)) = true := by simp; omega
        have hlt2 : i < ys.length := by have := HL.out; omega
        obtain ⟨ad, A3, c3, rfl, e0, e1, e2, e3, hc3, hC3⟩ := at_T24 (Kd.C_below hA hbw) i (by omega) (by omega)
        obtain ⟨bd, B3, d3, rfl, g0, g1, g2, g3, hd3, hD3⟩ := at_T24 (Kd.C_below hB hbw) i (by omega) (by omega)
        rw [rd_at xs i hlt] at e0 e1 e2 e3 hc3 hC3
        rw [rd_at ys i hlt2] at g0 g1 g2 g3 hd3 hD3
        rw [Int.toNat_natCast] at e0 e1 e2 e3 g0 g1 g2 g3
        have hsz : RefW.sizeT xs[i] ≤ n := Nat.le_trans (RefW.sizeT_mem xs _ (List.getElem_mem hlt)) hs
        have f0 := fun o : Obj => Lib.cell?_alloc_some (W := wr) o g0
        have f1 := fun o : Obj => Lib.cell?_alloc_some (W := wr) o g1
        have f2 := fun o : Obj => Lib.cell?_alloc_some (W := wr) o g2
        have f3 := fun o : Obj => Lib.cell?_alloc_some (W := wr) o g3
        have hV : TermV wr xs[i] (.agg #[.int .u8 xs[i].f0, .string xs[i].f1, .int .i64 xs[i].f2, .slice A3 xs[i].f3.length c3]) := ⟨A3, c3, rfl, hc3, hC3⟩
        have hU : TermV wr ys[i] (.agg #[.int .u8 ys[i].f0, .string ys[i].f1, .int .i64 ys[i].f2, .slice B3 ys[i].f3.length d3]) := ⟨B3, d3, rfl, hd3, hD3⟩
        obtain ⟨W1, hW1⟩ : ∃ W1, wr.alloc (.cells #[.int .u8 xs[i].f0, .string xs[i].f1, .int .i64 xs[i].f2, .slice A3 xs[i].f3.length c3] 24) = W1 := ⟨_, rfl⟩
        have hb1 : Below wr.heap.size wr W1 := by rw [← hW1]; exact (Below.refl _ wr).alloc (Nat.le_refl _) _
        have hb2 : Below wr.heap.size wr (W1.alloc (.cells #[.int .u8 ys[i].f0, .string ys[i].f1, .int .i64 ys[i].f2, .slice B3 ys[i].f3.length d3] 24)) := hb1.alloc hb1.size _
        have hcall := hn xs[i] ys[i] _ _ _ hsz (hV.below hb2) (hU.below hb2)
        obtain ⟨b, hbe⟩ : ∃ b, sameT xs[i] ys[i] = b := ⟨_, rfl⟩
        obtain ⟨p1, p2⟩ := same_prefix xs ys i hlt hlt2 hpre b hbe
        rw [hbe] at hcall
        rw [← hW1] at hb2 hcall
        have HC := Lib.hid hcall
        have HP1 := Lib.hid p1
        have HP2 := Lib.hid p2
        clear hcall p1 p2 hbe hV hU hC3 hD3 hW1 hpre hsz
        cases b with
        | true =>
          have hp := HP1.out rfl
          go_wp2_with (go_at_call 23; refine HC.out.mono ?_; rintro e w3 ⟨rfl, hb3⟩)
          exact ⟨⟨i + 1, by simp, by omega, hp, hbw.trans ((hb2.trans (hb3.mono hb2.size)).mono hbw.size)⟩, by simp [intOf]; omega⟩
        | false =>
          have hp := Lib.hid (HP2.out rfl)
          go_wp2_with (go_at_call 23; refine HC.out.mono ?_; rintro e w3 ⟨rfl, hb3⟩)
          go_ret
          exact ⟨by rw [hp.out]; rfl, hbw.trans ((hb2.trans (hb3.mono hb2.size)).mono hbw.size)⟩
      · have hdd : decide ((i : Int) < (xs.length : Int)) = false := by simp; omega
        rw [List.take_of_length_le (by omega), List.take_of_length_le (by have := HL.out; omega)] at hpre
        have hs := Lib.hid ((sameL_iff _ _).2 hpre)
        clear hpre
        go_wp2
        go_ret
        exact ⟨by rw [hs.out]; rfl, hbw⟩
  · have hll : (((xs.length : Int) != (ys.length : Int))) = true := by simp; omega
    have hs : Hid (sameL xs ys = false) := by
      show _ = _
      cases hs : sameL xs ys with
      | false => rfl
      | true => exact absurd (by rw [(sameL_iff _ _).1 hs]) hl
    clear hl
    go_enter Tryd.func47, Tryd.ntmps47
    go_wp2
    go_ret
    exact ⟨by rw [hs.out]; rfl, Below.refl _ _⟩

theorem strEq (s t : ByteArray) : (s.toList == t.toList) = decide (bl s = bl t) := by
  rw [ByteArray.toList_eq, ByteArray.toList_eq, Bool.eq_iff_iff]; simp

set_option maxHeartbeats 4000000 in
set_option maxRecDepth 100000 in
theorem Same_step {n : Nat} (hn : SameOK n) (hlen : n ≤ 1000000) (x y : S24) (v u : Value) (w : World) (hs : RefW.sizeT x ≤ n + 1) (hv : TermV w x v) (hu : TermV w y u) :
    Calls Tryd.prog 23 #[v, u] w fun e w' => e = .returned (.bool (sameT x y)) ∧ Below w.heap.size w w' := by
  have hu24 := Tryd.underlying24
  obtain ⟨A, c, rfl, hc, hC⟩ := hv
  obtain ⟨B, d, rfl, hd, hD⟩ := hu
  obtain ⟨W1, hW1⟩ : ∃ W1, w.alloc (.cells #[.int .u8 x.f0, .string x.f1, .int .i64 x.f2, .slice A x.f3.length c] 24) = W1 := ⟨_, rfl⟩
  have hb1 : Below w.heap.size w W1 := by rw [← hW1]; exact (Below.refl _ w).alloc (Nat.le_refl _) _
  have hb2 : Below w.heap.size w (W1.alloc (.cells #[.int .u8 y.f0, .string y.f1, .int .i64 y.f2, .slice B y.f3.length d] 24)) := hb1.alloc hb1.size _
  have hsl : RefW.sizeTL x.f3 ≤ n := by rw [RefW.sizeT_eq] at hs; exact Nat.le_of_succ_le_succ hs
  have hcall := EqualFunc_calls hn x.f3 y.f3 A B c d _ (Kd.C_below hC hb2) (Kd.C_below hD hb2) hsl hlen
  have hE := sameT_eq x y
  have s1 := strEq x.f1 y.f1
  rw [← hW1] at hb2 hcall
  have HC := Lib.hid hcall
  clear hcall hC hD hW1 hb1 hsl hs hlen
  by_cases c0 : x.f0 = y.f0
  · have k0 : (x.f0 == y.f0) = true := by simp [c0]
    rw [decide_eq_true c0, Bool.true_and] at hE
    by_cases c1 : bl x.f1 = bl y.f1
    · have k1 : (x.f1.toList == y.f1.toList) = true := by rw [s1]; exact decide_eq_true c1
      rw [decide_eq_true c1, Bool.true_and] at hE
      by_cases c2 : x.f2 = y.f2
      · have k2 : (x.f2 == y.f2) = true := by simp [c2]
        rw [decide_eq_true c2, Bool.true_and] at hE
        have HE := Lib.hid hE
        obtain ⟨b, hbe⟩ : ∃ b, sameL x.f3 y.f3 = b := ⟨_, rfl⟩
        rw [hbe] at HC HE
        clear hE s1 c0 c1 c2 hbe
        go_enter Tryd.func23, Tryd.ntmps23
        go_wp2_with (go_at_call 47; refine HC.out.mono ?_; rintro e w3 ⟨rfl, hb3⟩)
        all_goals
          go_ret
          exact ⟨by rw [HE.out]; rfl, hb2.trans (hb3.mono hb2.size)⟩
      · have k2 : (x.f2 == y.f2) = false := by simp [c2]
        rw [decide_eq_false c2, Bool.false_and] at hE
        have HE := Lib.hid hE
        clear hE s1 c0 c1 c2 HC
        go_enter Tryd.func23, Tryd.ntmps23
        go_wp2
        go_ret
        exact ⟨by rw [HE.out]; rfl, hb2⟩
    · have k1 : (x.f1.toList == y.f1.toList) = false := by rw [s1]; exact decide_eq_false c1
      rw [decide_eq_false c1, Bool.false_and] at hE
      have HE := Lib.hid hE
      clear hE s1 c0 c1 HC
      go_enter Tryd.func23, Tryd.ntmps23
      go_wp2
      go_ret
      exact ⟨by rw [HE.out]; rfl, hb2⟩
  · have k0 : (x.f0 == y.f0) = false := by simp [c0]
    rw [decide_eq_false c0, Bool.false_and] at hE
    have HE := Lib.hid hE
    clear hE s1 c0 HC
    go_enter Tryd.func23, Tryd.ntmps23
    go_wp2
    go_ret
    exact ⟨by rw [HE.out]; rfl, hb2⟩

theorem sameOK : ∀ n, n ≤ 1000001 → SameOK n
  | 0, _ => fun x _ _ _ _ h _ _ => absurd h (by rw [RefW.sizeT_eq]; exact Nat.not_succ_le_zero _)
  | n + 1, hn => fun x y v u w hs hv hu => Same_step (sameOK n (by omega)) (by omega) x y v u w hs hv hu
end Go.Proofs.YthnjdfblappkfaaDoor
