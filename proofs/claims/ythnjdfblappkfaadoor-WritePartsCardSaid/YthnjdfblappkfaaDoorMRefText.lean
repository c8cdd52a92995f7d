/- Several small texts of this claim in one. -/
import Derived.Test.YthnjdfblappkfaaDoorRefN
import Derived.Test.YthnjdfblappkfaaDoorMText
import Derived.Deep.RegionHeld
section
/-
  The document's text of a term: the walk, against the writer's own plain words.
-/
namespace Go.Proofs.YthnjdfblappkfaaDoor
open Go.RowKit Go.Proofs.YthnjdfblappkfaaDoorW.PrintWords Go.Proofs.YthnjdfblappkfaaDoorW.PrintLast Go.Proofs.YthnjdfblappkfaaDoorW.PrintMore Go.Proofs.YthnjdfblappkfaaDoor.P

def RefOK (k : Nat) : Prop := ∀ (x : S24) (v : Value) (r : List UInt8) (w : World), TermV w x v → textF k x = some r →
  Calls Tryd.prog 40 #[v] w fun e w' => e = .returned (.string ⟨r.toArray⟩) ∧ Below w.heap.size w w'

/-- What ends a list. -/
def endsL (k : Nat) (rest : S24) (e : List UInt8) : Prop :=
  (rest.f0 = 3 ∧ bl rest.f1 = [91, 93] ∧ e = [93]) ∨ (¬ (rest.f0 = 3 ∧ bl rest.f1 = [91, 93]) ∧ ∃ q, textF k rest = some q ∧ q.length ≤ 1099511627776 ∧ e = 124 :: q ++ [93])

def RefL (k kk : Nat) : Prop := ∀ (y rest : S24) (xs : List S24) (rs : List (List UInt8)) (e : List UInt8) (v : Value) (w : World), TermV w y v → spine kk y = some (xs, rest) → mapO (textF k) xs = some rs → endsL k rest e → (Lib.joinTail [44] rs).length ≤ 2199023255552 →
  Calls Tryd.prog 66 #[v] w fun e' w' => e' = .returned (.string ⟨(Lib.joinTail [44] rs ++ e).toArray⟩) ∧ Below w.heap.size w w'

theorem consB_parts {y : S24} (h : consB y = true) : y.f0 = 4 ∧ bl y.f1 = [46] ∧ y.f3.length = 2 := by
  unfold consB at h
  simp at h
  refine ⟨h.1.1, ?_, h.2⟩
  simpa using h.1.2

theorem app_str2 (a b : List UInt8) : (⟨a.toArray⟩ : ByteArray) ++ (⟨b.toArray⟩ : ByteArray) = ⟨(a ++ b).toArray⟩ := by
  apply bl_ext
  simp [bl]

set_option maxHeartbeats 8000000 in
set_option maxRecDepth 100000 in
theorem refL_end {k : Nat} (hk : RefOK k) (y : S24) (e : List UInt8) (v : Value) (w : World) (hV : TermV w y v) (hc : consB y = false) (he : endsL k y e) :
    Calls Tryd.prog 66 #[v] w fun e' w' => e' = .returned (.string ⟨e.toArray⟩) ∧ Below w.heap.size w w' := by
  obtain ⟨A, c, rfl, hcc, hC⟩ := hV
  have hu24 := Tryd.underlying24
  have hbx : Below w.heap.size w (w.alloc (.cells #[.int .u8 y.f0, .string y.f1, .int .i64 y.f2, .slice A y.f3.length c] 24)) := (Below.refl _ w).alloc (Nat.le_refl _) _
  have hV1 : TermV _ y _ := TermV.below ⟨A, c, rfl, hcc, hC⟩ hbx
  rcases he with ⟨h3, hn, rfl⟩ | ⟨hne, q, hq, hql, rfl⟩
  · have k3 : (y.f0 == 3) = true := by rw [h3]; rfl
    have n1 : (y.f1.toList == [91, 93]) = true := by rw [teq]; exact decide_eq_true hn
    clear h3 hn hc
    go_enter Tryd.func66, Tryd.ntmps66
    go_wp2
    go_ret
    exact ⟨rfl, hbx⟩
  · have HQ := Lib.hid hq
    have hfin : ∀ (W1 W2 : World), Below w.heap.size w W1 → Below W1.heap.size W1 W2 → (Ending.returned (.string ((⟨[124].toArray⟩ ++ ⟨q.toArray⟩) ++ ⟨[93].toArray⟩)) = Ending.returned (.string ⟨(124 :: q ++ [93]).toArray⟩) ∧ Below w.heap.size w W2) := fun W1 W2 h1 h2 => by
      rw [app_str2, app_str2]
      exact ⟨rfl, h1.trans (h2.mono h1.size)⟩
    have HF := Lib.hid hfin
    clear hq hfin
    by_cases h3 : y.f0 = 3
    · have k3 : (y.f0 == 3) = true := by rw [h3]; rfl
      have k4 : (y.f0 == 4) = false := by rw [h3]; rfl
      have n1 : (y.f1.toList == [91, 93]) = false := by rw [teq]; exact decide_eq_false (fun h => hne ⟨h3, h⟩)
      clear h3 hne hc
      go_enter Tryd.func66, Tryd.ntmps66
      go_wp2_with (go_at_call 40; refine (hk y _ q _ hV1 HQ.out).mono ?_; rintro e w2 ⟨rfl, hb2⟩)
      go_ret
      exact HF.out _ _ hbx hb2
    · have k3 : (y.f0 == 3) = false := by simpa using h3
      by_cases h4 : y.f0 = 4
      · have k4 : (y.f0 == 4) = true := by rw [h4]; rfl
        by_cases hn : bl y.f1 = [46]
        · have n2 : (y.f1.toList == [46]) = true := by rw [teq]; exact decide_eq_true hn
          have hl : ((y.f3.length : Int) == 2) = false := by
            rw [beq_eq_false_iff_ne]
            intro hl
            have : consB y = true := by
              unfold consB
              rw [h4, hn, show y.f3.length = 2 by omega]
              rfl
            rw [this] at hc
            cases hc
          clear h3 h4 hn hne hc
          go_enter Tryd.func66, Tryd.ntmps66
          go_wp2_with (go_at_call 40; refine (hk y _ q _ hV1 HQ.out).mono ?_; rintro e w2 ⟨rfl, hb2⟩)
          go_ret
          exact HF.out _ _ hbx hb2
        · have n2 : (y.f1.toList == [46]) = false := by rw [teq]; exact decide_eq_false hn
          clear h3 h4 hn hne hc
          go_enter Tryd.func66, Tryd.ntmps66
          go_wp2_with (go_at_call 40; refine (hk y _ q _ hV1 HQ.out).mono ?_; rintro e w2 ⟨rfl, hb2⟩)
          go_ret
          exact HF.out _ _ hbx hb2
      · have k4 : (y.f0 == 4) = false := by simpa using h4
        clear h3 h4 hne hc
        go_enter Tryd.func66, Tryd.ntmps66
        go_wp2_with (go_at_call 40; refine (hk y _ q _ hV1 HQ.out).mono ?_; rintro e w2 ⟨rfl, hb2⟩)
        go_ret
        exact HF.out _ _ hbx hb2
end Go.Proofs.YthnjdfblappkfaaDoor
end
section
/-
  The document's text of a list behind its first element.
-/
namespace Go.Proofs.YthnjdfblappkfaaDoor
open Go.RowKit Go.Proofs.YthnjdfblappkfaaDoorW.PrintWords Go.Proofs.YthnjdfblappkfaaDoorW.PrintLast Go.Proofs.YthnjdfblappkfaaDoorW.PrintMore Go.Proofs.YthnjdfblappkfaaDoor.P

theorem at_const {w : World} {A : Option Addr} {xs : List S24} (hC : Kd.C k24 w A xs.length xs) (h2 : xs.length = 2) :
    ∃ ad A0 c0 A1 c1, A = some ad ∧
      (w.cell? ad = some (.int .u8 (rd_T24 xs 0).f0) ∧ w.cell? ⟨ad.block, ad.off + 1, none⟩ = some (.string (rd_T24 xs 0).f1) ∧ w.cell? ⟨ad.block, ad.off + 2, none⟩ = some (.int .i64 (rd_T24 xs 0).f2) ∧ w.cell? ⟨ad.block, ad.off + 3, none⟩ = some (.slice A0 (rd_T24 xs 0).f3.length c0)) ∧
      (w.cell? ⟨ad.block, ad.off + 4, none⟩ = some (.int .u8 (rd_T24 xs 1).f0) ∧ w.cell? ⟨ad.block, ad.off + 4 + 1, none⟩ = some (.string (rd_T24 xs 1).f1) ∧ w.cell? ⟨ad.block, ad.off + 4 + 2, none⟩ = some (.int .i64 (rd_T24 xs 1).f2) ∧ w.cell? ⟨ad.block, ad.off + 4 + 3, none⟩ = some (.slice A1 (rd_T24 xs 1).f3.length c1)) ∧
      TermV w (rd_T24 xs 0) (.agg #[.int .u8 (rd_T24 xs 0).f0, .string (rd_T24 xs 0).f1, .int .i64 (rd_T24 xs 0).f2, .slice A0 (rd_T24 xs 0).f3.length c0]) ∧
      TermV w (rd_T24 xs 1) (.agg #[.int .u8 (rd_T24 xs 1).f0, .string (rd_T24 xs 1).f1, .int .i64 (rd_T24 xs 1).f2, .slice A1 (rd_T24 xs 1).f3.length c1]) := by
  obtain ⟨ad, A0, c0, hAy, e00, e01, e02, e03, hc0, hC0⟩ := at_T24 hC 0 (by omega) (by omega)
  obtain ⟨ad', A1, c1, hAy', e10, e11, e12, e13, hc1, hC1⟩ := at_T24 hC 1 (by omega) (by omega)
  rw [hAy] at hAy'
  obtain rfl := Option.some.inj hAy'
  exact ⟨ad, A0, c0, A1, c1, hAy, ⟨e00, e01, e02, e03⟩, ⟨e10, e11, e12, e13⟩, ⟨A0, c0, rfl, hc0, hC0⟩, ⟨A1, c1, rfl, hc1, hC1⟩⟩

theorem cell_later {W W' : World} {a : Addr} {v : Value} (h : W.cell? a = some v) (hb : Below W.heap.size W W') : W'.cell? a = some v := (hb.cell (World.block_lt_of_cell? W _ h)).trans h

set_option maxHeartbeats 8000000 in
set_option maxRecDepth 100000 in
theorem refL_cons {k kk : Nat} (hk : RefOK k) (ih : RefL k kk) (y rest : S24) (xs : List S24) (r0 : List UInt8) (rs : List (List UInt8)) (e : List UInt8) (v : Value) (w : World) (hV : TermV w y v) (hcb : consB y = true)
    (hsp : spine kk (rd_T24 y.f3 1) = some (xs, rest)) (hr0 : textF k (rd_T24 y.f3 0) = some r0) (hrs : mapO (textF k) xs = some rs) (he : endsL k rest e) (hlen : (Lib.joinTail [44] (r0 :: rs)).length ≤ 2199023255552) :
    Calls Tryd.prog 66 #[v] w fun e' w' => e' = .returned (.string ⟨(Lib.joinTail [44] (r0 :: rs) ++ e).toArray⟩) ∧ Below w.heap.size w w' := by
  obtain ⟨A, c, rfl, hcc, hC⟩ := hV
  obtain ⟨h4, hn, h2⟩ := consB_parts hcb
  have hu24 := Tryd.underlying24
  have hbx : Below w.heap.size w (w.alloc (.cells #[.int .u8 y.f0, .string y.f1, .int .i64 y.f2, .slice A y.f3.length c] 24)) := (Below.refl _ w).alloc (Nat.le_refl _) _
  have hT := (MapKept.heap_alloc w (.cells #[.int .u8 y.f0, .string y.f1, .int .i64 y.f2, .slice A y.f3.length c] 24)).1
  have k3 : (y.f0 == 3) = false := by rw [h4]; rfl
  have k4 : (y.f0 == 4) = true := by rw [h4]; rfl
  have n2 : (y.f1.toList == [46]) = true := by rw [teq]; exact decide_eq_true hn
  have hl2 : ((y.f3.length : Int) == 2) = true := by rw [h2]; rfl
  obtain ⟨ad, A0, c0, A1, c1, rfl, ⟨e00, e01, e02, e03⟩, ⟨e10, e11, e12, e13⟩, hV0, hV1⟩ := at_const (Kd.C_below hC hbx) h2
  have hj : Lib.joinTail [44] (r0 :: rs) = 44 :: r0 ++ Lib.joinTail [44] rs := rfl
  have hjl : (44 :: r0 ++ Lib.joinTail [44] rs).length = 1 + r0.length + (Lib.joinTail [44] rs).length := by simp; omega
  rw [hj, hjl] at hlen
  have hel : e.length ≤ 1099511627780 := by
    rcases he with ⟨_, _, rfl⟩ | ⟨_, q, _, hql, rfl⟩
    · decide
    · simp; omega
  rw [hj]
  obtain ⟨T1, hT1⟩ : ∃ T1, Lib.joinTail [44] rs ++ e = T1 := ⟨_, rfl⟩
  have hTl : T1.length ≤ 4398046511104 := by rw [← hT1, List.length_append]; omega
  have hr0l : r0.length ≤ 2199023255552 := by omega
  have HI := Lib.hid (fun (W : World) (vv : Value) (hW : TermV W (rd_T24 y.f3 1) vv) => ih (rd_T24 y.f3 1) rest xs rs e vv W hW hsp hrs he (by omega))
  rw [hT1] at HI
  have HQ := Lib.hid hr0
  have hfin : (44 :: r0 ++ Lib.joinTail [44] rs ++ e) = 44 :: r0 ++ T1 := by rw [List.append_assoc, hT1]
  rw [hfin]
  clear hfin hT1 hj hjl hlen hel hr0 hsp hrs he ih hcb h4 hn
  have t3 : (w.alloc (.cells #[.int .u8 y.f0, .string y.f1, .int .i64 y.f2, .slice (some ad) y.f3.length c] 24)).cell? ⟨w.heap.size, 3, none⟩ = some (.slice (some ad) y.f3.length c) := Lib.cell_of_heap hT 3
  go_enter Tryd.func66, Tryd.ntmps66
  go_wp2
  simp only [h2] at hbx hT e00 e01 e02 e03 e10 e11 e12 e13 hV0 hV1 t3
  generalize w.alloc (.cells #[.int .u8 y.f0, .string y.f1, .int .i64 y.f2, .slice (some ad) 2 c] 24) = w1 at hbx hT e00 e01 e02 e03 e10 e11 e12 e13 hV0 hV1 t3 ⊢
  have HS : Hid (∀ W', Below w1.heap.size w1 W' → W'.cell? ⟨w.heap.size, 3, none⟩ = some (.slice (some ad) 2 c) ∧ W'.cell? ad = some (.int .u8 (rd_T24 y.f3 0).f0) ∧ W'.cell? ⟨ad.block, ad.off + 1, none⟩ = some (.string (rd_T24 y.f3 0).f1) ∧ W'.cell? ⟨ad.block, ad.off + 2, none⟩ = some (.int .i64 (rd_T24 y.f3 0).f2) ∧ W'.cell? ⟨ad.block, ad.off + 3, none⟩ = some (.slice A0 (rd_T24 y.f3 0).f3.length c0) ∧
      W'.cell? ⟨ad.block, ad.off + 4, none⟩ = some (.int .u8 (rd_T24 y.f3 1).f0) ∧ W'.cell? ⟨ad.block, ad.off + 4 + 1, none⟩ = some (.string (rd_T24 y.f3 1).f1) ∧ W'.cell? ⟨ad.block, ad.off + 4 + 2, none⟩ = some (.int .i64 (rd_T24 y.f3 1).f2) ∧ W'.cell? ⟨ad.block, ad.off + 4 + 3, none⟩ = some (.slice A1 (rd_T24 y.f3 1).f3.length c1)) :=
    fun W' h => ⟨cell_later t3 h, cell_later e00 h, cell_later e01 h, cell_later e02 h, cell_later e03 h, cell_later e10 h, cell_later e11 h, cell_later e12 h, cell_later e13 h⟩
  have hsz : w.heap.size ≤ w1.heap.size := hbx.size
  go_region_held (fun W' => W'.cell? ⟨w.heap.size, 3, none⟩ = some (.slice (some ad) 2 c) ∧ W'.cell? ad = some (.int .u8 (rd_T24 y.f3 0).f0) ∧ W'.cell? ⟨ad.block, ad.off + 1, none⟩ = some (.string (rd_T24 y.f3 0).f1) ∧ W'.cell? ⟨ad.block, ad.off + 2, none⟩ = some (.int .i64 (rd_T24 y.f3 0).f2) ∧ W'.cell? ⟨ad.block, ad.off + 3, none⟩ = some (.slice A0 (rd_T24 y.f3 0).f3.length c0) ∧
      W'.cell? ⟨ad.block, ad.off + 4, none⟩ = some (.int .u8 (rd_T24 y.f3 1).f0) ∧ W'.cell? ⟨ad.block, ad.off + 4 + 1, none⟩ = some (.string (rd_T24 y.f3 1).f1) ∧ W'.cell? ⟨ad.block, ad.off + 4 + 2, none⟩ = some (.int .i64 (rd_T24 y.f3 1).f2) ∧ W'.cell? ⟨ad.block, ad.off + 4 + 3, none⟩ = some (.slice A1 (rd_T24 y.f3 1).f3.length c1))
    (first | exact HS.out _ ((Below.refl _ w1).drew) | exact HS.out _ hb3' | exact HS.out _ hb2)
    (first
      | (go_at_call 40; refine (hk (rd_T24 y.f3 0) _ r0 _ (TermV.below hV0 ((Below.refl _ w1).drew)) HQ.out).mono ?_; rintro e w2 ⟨rfl, hb2'⟩; have hb2 : Below w1.heap.size w1 w2 := ((Below.refl _ w1).drew).trans hb2')
      | (go_at_call 66; refine (HI.out w2 _ (TermV.below hV1 hb2)).mono ?_; rintro e w3 ⟨rfl, hb3⟩; have hb3' : Below w1.heap.size w1 w3 := hb2.trans (hb3.mono hb2.size)))
  all_goals
    go_wp2
    go_ret
    refine ⟨?_, hbx.trans (hb3'.mono hsz)⟩
    show Ending.returned (Value.string ((⟨[44].toArray⟩ ++ ⟨r0.toArray⟩) ++ ⟨T1.toArray⟩)) = _
    rw [app_str2, app_str2]
    rfl
end Go.Proofs.YthnjdfblappkfaaDoor
end
section
/-
  The document's text of a term, kind by kind.
-/
namespace Go.Proofs.YthnjdfblappkfaaDoor
open Go.RowKit Go.Proofs.YthnjdfblappkfaaDoorW.PrintWords Go.Proofs.YthnjdfblappkfaaDoorW.PrintLast Go.Proofs.YthnjdfblappkfaaDoorW.PrintMore Go.Proofs.YthnjdfblappkfaaDoor.P

theorem refL_all {k : Nat} (hk : RefOK k) : ∀ kk, RefL k kk
  | 0 => fun y rest xs rs e v w _ hsp => by simp [spine] at hsp
  | kk + 1 => fun y rest xs rs e v w hV hsp hrs he hlen => by
    cases hcb : consB y with
    | true =>
      simp only [spine, if_pos hcb, Option.bind_eq_some_iff] at hsp
      obtain ⟨p, hp, h⟩ := hsp
      have h := Option.some.inj h
      injection h with h1 h2
      subst h1
      subst h2
      simp only [mapO, Option.bind_eq_some_iff] at hrs
      obtain ⟨r0, hr0, rs', hrs', h⟩ := hrs
      obtain rfl := Option.some.inj h
      exact refL_cons hk (refL_all hk kk) y _ _ r0 rs' e v w hV hcb hp hr0 hrs' he hlen
    | false =>
      obtain ⟨rfl, rfl⟩ := spine_no hsp hcb
      simp only [mapO] at hrs
      obtain rfl := Option.some.inj hrs
      exact refL_end hk _ e v w hV hcb he

set_option maxHeartbeats 4000000 in
set_option maxRecDepth 100000 in
theorem refX_var (f1 : ByteArray) (f2 : Int) (A : Option Addr) (n c : Nat) (w : World) (hlo : -9223372036854775808 ≤ f2) (hhi : f2 ≤ 9223372036854775807) :
    Calls Tryd.prog 40 #[.agg #[.int .u8 1, .string f1, .int .i64 f2, .slice A n c]] w fun e w' => e = .returned (.string ⟨(95 :: Lib.itoa f2).toArray⟩) ∧ Below w.heap.size w w' := by
  have hu24 := Tryd.underlying24
  have hbx : Below w.heap.size w (w.alloc (.cells #[.int .u8 1, .string f1, .int .i64 f2, .slice A n c] 24)) := (Below.refl _ w).alloc (Nat.le_refl _) _
  have hil : (Lib.itoa f2).length ≤ 21 := Lib.itoa_length_le f2 hlo hhi
  go_enter Tryd.func40, Tryd.ntmps40
  go_wp2_with (go_at_call 65; refine (RefW.Number_calls f2 hlo hhi _).mono ?_; rintro e w1 ⟨rfl, hb1⟩)
  go_ret
  exact ⟨rfl, hbx.trans (hb1.mono hbx.size)⟩

set_option maxHeartbeats 4000000 in
set_option maxRecDepth 100000 in
theorem refX_int (f1 : ByteArray) (f2 : Int) (A : Option Addr) (n c : Nat) (w : World) (hlo : -9223372036854775808 ≤ f2) (hhi : f2 ≤ 9223372036854775807) :
    Calls Tryd.prog 40 #[.agg #[.int .u8 2, .string f1, .int .i64 f2, .slice A n c]] w fun e w' => e = .returned (.string ⟨(Lib.itoa f2).toArray⟩) ∧ Below w.heap.size w w' := by
  have hu24 := Tryd.underlying24
  have hbx : Below w.heap.size w (w.alloc (.cells #[.int .u8 2, .string f1, .int .i64 f2, .slice A n c] 24)) := (Below.refl _ w).alloc (Nat.le_refl _) _
  go_enter Tryd.func40, Tryd.ntmps40
  go_wp2_with (go_at_call 65; refine (RefW.Number_calls f2 hlo hhi _).mono ?_; rintro e w1 ⟨rfl, hb1⟩)
  go_ret
  exact ⟨rfl, hbx.trans (hb1.mono hbx.size)⟩

set_option maxHeartbeats 4000000 in
set_option maxRecDepth 100000 in
theorem refX_atom (f1 : ByteArray) (f2 : Int) (A : Option Addr) (n c : Nat) (w : World) (hs : f1.size ≤ 200) :
    Calls Tryd.prog 40 #[.agg #[.int .u8 3, .string f1, .int .i64 f2, .slice A n c]] w fun e w' => e = .returned (.string ⟨(nameM (bl f1)).toArray⟩) ∧ Below w.heap.size w w' := by
  have hu24 := Tryd.underlying24
  have hbx : Below w.heap.size w (w.alloc (.cells #[.int .u8 3, .string f1, .int .i64 f2, .slice A n c] 24)) := (Below.refl _ w).alloc (Nat.le_refl _) _
  go_enter Tryd.func40, Tryd.ntmps40
  go_wp2_with (go_at_call 18; refine (RefW.Name_calls f1 _ (by omega)).mono ?_; rintro e w1 ⟨rfl, hb1⟩)
  go_ret
  exact ⟨rfl, hbx.trans (hb1.mono hbx.size)⟩

set_option maxHeartbeats 8000000 in
set_option maxRecDepth 100000 in
theorem refX_cons {k kk : Nat} (hk : RefOK k) (y rest : S24) (xs : List S24) (r0 : List UInt8) (rs : List (List UInt8)) (e : List UInt8) (v : Value) (w : World) (hV : TermV w y v) (hcb : consB y = true)
    (hsp : spine kk (rd_T24 y.f3 1) = some (xs, rest)) (hr0 : textF k (rd_T24 y.f3 0) = some r0) (hrs : mapO (textF k) xs = some rs) (he : endsL k rest e) (hlen : (joinC (r0 :: rs)).length ≤ 1099511627776) :
    Calls Tryd.prog 40 #[v] w fun e' w' => e' = .returned (.string ⟨(91 :: joinC (r0 :: rs) ++ e).toArray⟩) ∧ Below w.heap.size w w' := by
  obtain ⟨A, c, rfl, hcc, hC⟩ := hV
  obtain ⟨h4, hn, h2⟩ := consB_parts hcb
  have hu24 := Tryd.underlying24
  have hbx : Below w.heap.size w (w.alloc (.cells #[.int .u8 y.f0, .string y.f1, .int .i64 y.f2, .slice A y.f3.length c] 24)) := (Below.refl _ w).alloc (Nat.le_refl _) _
  have hT := (MapKept.heap_alloc w (.cells #[.int .u8 y.f0, .string y.f1, .int .i64 y.f2, .slice A y.f3.length c] 24)).1
  have k3 : (y.f0 == 3) = false := by rw [h4]; rfl
  have k4 : (y.f0 == 4) = true := by rw [h4]; rfl
  have n2 : (y.f1.toList == [46]) = true := by rw [teq]; exact decide_eq_true hn
  have hl2 : ((y.f3.length : Int) == 2) = true := by rw [h2]; rfl
  obtain ⟨ad, A0, c0, A1, c1, rfl, ⟨e00, e01, e02, e03⟩, ⟨e10, e11, e12, e13⟩, hV0, hV1⟩ := at_const (Kd.C_below hC hbx) h2
  have hj : joinC (r0 :: rs) = r0 ++ Lib.joinTail [44] rs := Lib.join_cons r0 rs [44]
  have hjl : (r0 ++ Lib.joinTail [44] rs).length = r0.length + (Lib.joinTail [44] rs).length := List.length_append
  rw [hj, hjl] at hlen
  have hel : e.length ≤ 1099511627780 := by
    rcases he with ⟨_, _, rfl⟩ | ⟨_, q, _, hql, rfl⟩
    · decide
    · simp; omega
  rw [hj]
  obtain ⟨T1, hT1⟩ : ∃ T1, Lib.joinTail [44] rs ++ e = T1 := ⟨_, rfl⟩
  have hTl : T1.length ≤ 4398046511104 := by rw [← hT1, List.length_append]; omega
  have hr0l : r0.length ≤ 2199023255552 := by omega
  have HI := Lib.hid (fun (W : World) (vv : Value) (hW : TermV W (rd_T24 y.f3 1) vv) => refL_all hk kk (rd_T24 y.f3 1) rest xs rs e vv W hW hsp hrs he (by omega))
  rw [hT1] at HI
  have HQ := Lib.hid hr0
  have hfin : (91 :: (r0 ++ Lib.joinTail [44] rs) ++ e) = 91 :: (r0 ++ T1) := by rw [List.cons_append, List.append_assoc, hT1]
  rw [hfin]
  have k1 : (y.f0 == 1) = false := by rw [h4]; rfl
  have k2 : (y.f0 == 2) = false := by rw [h4]; rfl
  clear hfin hT1 hj hjl hlen hel hr0 hsp hrs he hcb h4 hn
  have t3 : (w.alloc (.cells #[.int .u8 y.f0, .string y.f1, .int .i64 y.f2, .slice (some ad) y.f3.length c] 24)).cell? ⟨w.heap.size, 3, none⟩ = some (.slice (some ad) y.f3.length c) := Lib.cell_of_heap hT 3
  go_enter Tryd.func40, Tryd.ntmps40
  go_wp2
  simp only [h2] at hbx hT e00 e01 e02 e03 e10 e11 e12 e13 hV0 hV1 t3
  generalize w.alloc (.cells #[.int .u8 y.f0, .string y.f1, .int .i64 y.f2, .slice (some ad) 2 c] 24) = w1 at hbx hT e00 e01 e02 e03 e10 e11 e12 e13 hV0 hV1 t3 ⊢
  have HS : Hid (∀ W', Below w1.heap.size w1 W' → W'.cell? ⟨w.heap.size, 3, none⟩ = some (.slice (some ad) 2 c) ∧ W'.cell? ad = some (.int .u8 (rd_T24 y.f3 0).f0) ∧ W'.cell? ⟨ad.block, ad.off + 1, none⟩ = some (.string (rd_T24 y.f3 0).f1) ∧ W'.cell? ⟨ad.block, ad.off + 2, none⟩ = some (.int .i64 (rd_T24 y.f3 0).f2) ∧ W'.cell? ⟨ad.block, ad.off + 3, none⟩ = some (.slice A0 (rd_T24 y.f3 0).f3.length c0) ∧
      W'.cell? ⟨ad.block, ad.off + 4, none⟩ = some (.int .u8 (rd_T24 y.f3 1).f0) ∧ W'.cell? ⟨ad.block, ad.off + 4 + 1, none⟩ = some (.string (rd_T24 y.f3 1).f1) ∧ W'.cell? ⟨ad.block, ad.off + 4 + 2, none⟩ = some (.int .i64 (rd_T24 y.f3 1).f2) ∧ W'.cell? ⟨ad.block, ad.off + 4 + 3, none⟩ = some (.slice A1 (rd_T24 y.f3 1).f3.length c1)) :=
    fun W' h => ⟨cell_later t3 h, cell_later e00 h, cell_later e01 h, cell_later e02 h, cell_later e03 h, cell_later e10 h, cell_later e11 h, cell_later e12 h, cell_later e13 h⟩
  have hsz : w.heap.size ≤ w1.heap.size := hbx.size
  go_region_held (fun W' => W'.cell? ⟨w.heap.size, 3, none⟩ = some (.slice (some ad) 2 c) ∧ W'.cell? ad = some (.int .u8 (rd_T24 y.f3 0).f0) ∧ W'.cell? ⟨ad.block, ad.off + 1, none⟩ = some (.string (rd_T24 y.f3 0).f1) ∧ W'.cell? ⟨ad.block, ad.off + 2, none⟩ = some (.int .i64 (rd_T24 y.f3 0).f2) ∧ W'.cell? ⟨ad.block, ad.off + 3, none⟩ = some (.slice A0 (rd_T24 y.f3 0).f3.length c0) ∧
      W'.cell? ⟨ad.block, ad.off + 4, none⟩ = some (.int .u8 (rd_T24 y.f3 1).f0) ∧ W'.cell? ⟨ad.block, ad.off + 4 + 1, none⟩ = some (.string (rd_T24 y.f3 1).f1) ∧ W'.cell? ⟨ad.block, ad.off + 4 + 2, none⟩ = some (.int .i64 (rd_T24 y.f3 1).f2) ∧ W'.cell? ⟨ad.block, ad.off + 4 + 3, none⟩ = some (.slice A1 (rd_T24 y.f3 1).f3.length c1))
    (first | exact HS.out _ ((Below.refl _ w1).drew) | exact HS.out _ hb3' | exact HS.out _ hb2)
    (first
      | (go_at_call 40; refine (hk (rd_T24 y.f3 0) _ r0 _ (TermV.below hV0 ((Below.refl _ w1).drew)) HQ.out).mono ?_; rintro e w2 ⟨rfl, hb2'⟩; have hb2 : Below w1.heap.size w1 w2 := ((Below.refl _ w1).drew).trans hb2')
      | (go_at_call 66; refine (HI.out w2 _ (TermV.below hV1 hb2)).mono ?_; rintro e w3 ⟨rfl, hb3⟩; have hb3' : Below w1.heap.size w1 w3 := hb2.trans (hb3.mono hb2.size)))
  all_goals
    go_wp2
    go_ret
    refine ⟨?_, hbx.trans (hb3'.mono hsz)⟩
    show Ending.returned (Value.string ((⟨[91].toArray⟩ ++ ⟨r0.toArray⟩) ++ ⟨T1.toArray⟩)) = _
    rw [app_str2, app_str2]
    rfl
end Go.Proofs.YthnjdfblappkfaaDoor
end
section
/-
  The document's text of a structure; and the whole by induction.
-/
namespace Go.Proofs.YthnjdfblappkfaaDoor
open Go.RowKit Go.Proofs.YthnjdfblappkfaaDoorW.PrintWords Go.Proofs.YthnjdfblappkfaaDoorW.PrintLast Go.Proofs.YthnjdfblappkfaaDoorW.PrintMore Go.Proofs.YthnjdfblappkfaaDoor.P

/-- What is written of the Args so far. -/
def preA (rs : List (List UInt8)) (i : Nat) : List UInt8 := if i = 0 then [] else 40 :: joinC (rs.take i)
theorem joinC_snoc (l : List (List UInt8)) (r : List UInt8) (h : l ≠ []) : joinC (l ++ [r]) = joinC l ++ 44 :: r := by
  cases l with
  | nil => exact absurd rfl h
  | cons x l =>
    unfold joinC
    rw [List.cons_append, Lib.join_cons, Lib.join_cons]
    unfold Lib.joinTail
    simp
theorem preA_succ (rs : List (List UInt8)) (i : Nat) (h : i < rs.length) : preA rs (i + 1) = preA rs i ++ (if i = 0 then [40] else [44]) ++ rs[i] := by
  unfold preA
  rw [if_neg (by omega)]
  have ht : rs.take (i + 1) = rs.take i ++ [rs[i]] := List.take_succ_eq_append_getElem h
  by_cases h0 : i = 0
  · subst h0
    rw [if_pos rfl, if_pos rfl, ht]
    show 40 :: Lib.join [rs[0]] [44] = _
    rw [Lib.join_one]
    rfl
  · rw [if_neg h0, if_neg h0, ht, joinC_snoc _ _ (by intro hn; have := congrArg List.length hn; rw [List.length_take, List.length_nil] at this; omega)]
    simp
theorem preA_len (rs : List (List UInt8)) : ∀ d i, i + d = rs.length → (preA rs i).length ≤ (preA rs rs.length).length
  | 0, i, h => by rw [show i = rs.length by omega]; exact Nat.le_refl _
  | d + 1, i, h => by
    have := preA_len rs d (i + 1) (by omega)
    rw [preA_succ rs i (by omega), List.length_append, List.length_append] at this
    omega

theorem quotedL_len2 (l : List UInt8) : (quotedL l).length ≤ 2 * l.length + 2 := by
  unfold quotedL
  have := flat_len l
  simp only [List.length_cons, List.length_append, List.length_nil]
  omega
theorem nameM_len2 (l : List UInt8) : (nameM l).length ≤ 2 * l.length + 2 := by
  unfold nameM
  split
  · omega
  · unfold quotedL
    have := flat_len l
    simp only [List.length_cons, List.length_append, List.length_nil]
    omega

set_option maxHeartbeats 8000000 in
set_option maxRecDepth 100000 in
theorem refX_struct {k : Nat} (hk : RefOK k) (x : S24) (rs : List (List UInt8)) (A : Option Addr) (c : Nat) (w : World) (hC : Kd.C k24 w A x.f3.length x.f3)
    (hnm : x.f1.size ≤ 200) (h4 : x.f0 = 4) (hne : x.f3 ≠ []) (hcb : consB x = false) (hn : ¬ bl x.f1 = [91, 93]) (hrs : mapO (textF k) x.f3 = some rs) (hsm : small rs) :
    Calls Tryd.prog 40 #[.agg #[.int .u8 x.f0, .string x.f1, .int .i64 x.f2, .slice A x.f3.length c]] w fun e w' => e = .returned (.string ⟨(nameM (bl x.f1) ++ 40 :: joinC rs ++ [41]).toArray⟩) ∧ Below w.heap.size w w' := by
  have hu24 := Tryd.underlying24
  obtain ⟨hrl, hget⟩ := mapO_get _ _ _ hrs
  have hbx : Below w.heap.size w (w.alloc (.cells #[.int .u8 x.f0, .string x.f1, .int .i64 x.f2, .slice A x.f3.length c] 24)) := (Below.refl _ w).alloc (Nat.le_refl _) _
  have hT := (MapKept.heap_alloc w (.cells #[.int .u8 x.f0, .string x.f1, .int .i64 x.f2, .slice A x.f3.length c] 24)).1
  have k1 : (x.f0 == 1) = false := by rw [h4]; rfl
  have k2 : (x.f0 == 2) = false := by rw [h4]; rfl
  have k3 : (x.f0 == 3) = false := by rw [h4]; rfl
  have n1 : (x.f1.toList == [91, 93]) = false := by rw [teq]; exact decide_eq_false hn
  have n2 : (x.f1.toList == [46] && ((x.f3.length : Int) == 2)) = false := by
    rw [teq]
    cases hd : decide (bl x.f1 = [46]) with
    | false => rfl
    | true =>
      rw [Bool.true_and, beq_eq_false_iff_ne]
      intro hl
      have : consB x = true := by
        unfold consB
        rw [h4, of_decide_eq_true hd, show x.f3.length = 2 by omega]
        rfl
      rw [this] at hcb
      cases hcb
  obtain ⟨nm, hnme⟩ : ∃ nm, nameM (bl x.f1) = nm := ⟨_, rfl⟩
  have hnl : nm.length ≤ 402 := by
    have := nameM_len2 (bl x.f1)
    rw [bl_length, hnme] at this
    omega
  have hName : ∀ W, Calls Tryd.prog 18 #[.string x.f1] W fun e w' => e = .returned (.string ⟨nm.toArray⟩) ∧ Below W.heap.size W w' := by
    intro W
    rw [← hnme]
    exact RefW.Name_calls x.f1 W (by omega)
  rw [hnme]
  clear hnme h4 hn hcb
  have hL : 1 ≤ x.f3.length := by
    cases hx : x.f3 with
    | nil => exact absurd hx hne
    | cons _ _ => simp
  have hfull : (preA rs rs.length).length ≤ 1099511627777 := by
    unfold preA
    rw [if_neg (by omega), List.take_of_length_le (Nat.le_refl _), List.length_cons]
    have := hsm.2
    omega
  have hs16 : x.f3.length ≤ 1048576 := by have := hsm.1; omega
  by_cases hdot : (x.f1.toList == [46]) = true
  · have hl2 : ((x.f3.length : Int) == 2) = false := by rw [hdot, Bool.true_and] at n2; exact n2
    clear n2
    go_enter Tryd.func40, Tryd.ntmps40
    go_wp2_with (go_at_call 18; refine (hName _).mono ?_; rintro e w1 ⟨rfl, hb1⟩; have hT1 := (hb1.block w.heap.size (by rw [World.size_alloc]; omega)).trans hT; have a1 := Lib.cell_of_heap hT1 1; have a3' := Lib.cell_of_heap hT1 3)
    have hb01 : Below w.heap.size w w1 := hbx.trans (hb1.mono hbx.size)
    have hz1 : w.heap.size + 1 ≤ w1.heap.size := by have := hb1.size; rw [World.size_alloc] at this; exact this
    go_wp2
    go_loopw [3, 4] (fun v3 v4 wr => ∃ i : Nat, v4 = .int .i64 i ∧ i ≤ x.f3.length ∧ v3 = .string ⟨(nm ++ preA rs i).toArray⟩ ∧ Below w1.heap.size w1 wr) (fun _ v4 _ => x.f3.length - (intOf v4).toNat)
    case atStart => exact ⟨0, rfl, Nat.zero_le _, by simp [preA], Below.refl _ _⟩
    case round =>
      obtain ⟨i, rfl, hi, rfl, hbr⟩ := hrel
      have hTr := (hbr.block w.heap.size (by omega)).trans hT1
      have a3 : wr.cell? ⟨w.heap.size, 3, none⟩ = some (.slice A x.f3.length c) := Lib.cell_of_heap hTr 3
      have hbwr := hb01.trans (hbr.mono hb01.size)
      obtain ⟨P, hP⟩ : ∃ P, nm ++ preA rs i = P := ⟨_, rfl⟩
      have hPl : P.length ≤ 2199023255552 := by
        have := preA_len rs (rs.length - i) i (by omega)
        rw [← hP, List.length_append]
        omega
      rw [hP]
      by_cases hlt : i < x.f3.length
      · have hri : i < rs.length := by omega
        have hd : decide ((i : Int) < (x.f3.length : Int)) = true := by simp; omega
        obtain ⟨ad, A3, c3, rfl, e0, e1, e2, e3, hc3, hC3⟩ := at_T24 (Kd.C_below hC hbwr) i (by omega) (by omega)
        rw [rd_at x.f3 i hlt] at e0 e1 e2 e3 hc3 hC3
        rw [Int.toNat_natCast] at e0 e1 e2 e3
        have hV : TermV wr x.f3[i] (.agg #[.int .u8 x.f3[i].f0, .string x.f3[i].f1, .int .i64 x.f3[i].f2, .slice A3 x.f3[i].f3.length c3]) := ⟨A3, c3, rfl, hc3, hC3⟩
        have hrl2 : (rs[i]).length ≤ 2199023255552 := by
          have h1 := preA_len rs (rs.length - (i + 1)) (i + 1) (by omega)
          rw [preA_succ rs i hri, List.length_append] at h1
          omega
        by_cases i0 : i = 0
        · have z0 : ((i : Int) == 0) = true := by simp; omega
          have HP : Hid ((P ++ [40]) ++ rs[i] = nm ++ preA rs (i + 1)) := by show _ = _; rw [preA_succ rs i hri, ← hP]; simp [i0]
          clear i0 hP
          go_wp2_with (go_at_call 40; refine (hk x.f3[i] _ rs[i] wr hV (hget i hlt hri)).mono ?_; rintro e w2 ⟨rfl, hb2⟩)
          exact ⟨⟨i + 1, by simp, by omega, by rw [← HP.out, ← app_str2, ← app_str2], hbr.trans (hb2.mono hbr.size)⟩, by simp [intOf]; omega⟩
        · have z0 : ((i : Int) == 0) = false := by simp; omega
          have HP : Hid ((P ++ [44]) ++ rs[i] = nm ++ preA rs (i + 1)) := by show _ = _; rw [preA_succ rs i hri, ← hP]; simp [i0]
          clear i0 hP
          go_wp2_with (go_at_call 40; refine (hk x.f3[i] _ rs[i] wr hV (hget i hlt hri)).mono ?_; rintro e w2 ⟨rfl, hb2⟩)
          exact ⟨⟨i + 1, by simp, by omega, by rw [← HP.out, ← app_str2, ← app_str2], hbr.trans (hb2.mono hbr.size)⟩, by simp [intOf]; omega⟩
      · have hd : decide ((i : Int) < (x.f3.length : Int)) = false := by simp; omega
        have hfin : Hid (P ++ [41] = nm ++ 40 :: joinC rs ++ [41]) := by
          show _ = _
          rw [← hP]
          unfold preA
          rw [if_neg (by omega), List.take_of_length_le (by omega)]
        clear hP
        go_wp2
        go_ret
        refine ⟨?_, hbwr⟩
        rw [← hfin.out, ← app_str2]
        rfl
  · have hdot2 : (x.f1.toList == [46]) = false := by simpa using hdot
    clear n2 hdot
    go_enter Tryd.func40, Tryd.ntmps40
    go_wp2_with (go_at_call 18; refine (hName _).mono ?_; rintro e w1 ⟨rfl, hb1⟩; have hT1 := (hb1.block w.heap.size (by rw [World.size_alloc]; omega)).trans hT; have a1 := Lib.cell_of_heap hT1 1; have a3' := Lib.cell_of_heap hT1 3)
    have hb01 : Below w.heap.size w w1 := hbx.trans (hb1.mono hbx.size)
    have hz1 : w.heap.size + 1 ≤ w1.heap.size := by have := hb1.size; rw [World.size_alloc] at this; exact this
    go_wp2
    go_loopw [3, 4] (fun v3 v4 wr => ∃ i : Nat, v4 = .int .i64 i ∧ i ≤ x.f3.length ∧ v3 = .string ⟨(nm ++ preA rs i).toArray⟩ ∧ Below w1.heap.size w1 wr) (fun _ v4 _ => x.f3.length - (intOf v4).toNat)
    case atStart => exact ⟨0, rfl, Nat.zero_le _, by simp [preA], Below.refl _ _⟩
    case round =>
      obtain ⟨i, rfl, hi, rfl, hbr⟩ := hrel
      have hTr := (hbr.block w.heap.size (by omega)).trans hT1
      have a3 : wr.cell? ⟨w.heap.size, 3, none⟩ = some (.slice A x.f3.length c) := Lib.cell_of_heap hTr 3
      have hbwr := hb01.trans (hbr.mono hb01.size)
      obtain ⟨P, hP⟩ : ∃ P, nm ++ preA rs i = P := ⟨_, rfl⟩
      have hPl : P.length ≤ 2199023255552 := by
        have := preA_len rs (rs.length - i) i (by omega)
        rw [← hP, List.length_append]
        omega
      rw [hP]
      by_cases hlt : i < x.f3.length
      · have hri : i < rs.length := by omega
        have hd : decide ((i : Int) < (x.f3.length : Int)) = true := by simp; omega
        obtain ⟨ad, A3, c3, rfl, e0, e1, e2, e3, hc3, hC3⟩ := at_T24 (Kd.C_below hC hbwr) i (by omega) (by omega)
        rw [rd_at x.f3 i hlt] at e0 e1 e2 e3 hc3 hC3
        rw [Int.toNat_natCast] at e0 e1 e2 e3
        have hV : TermV wr x.f3[i] (.agg #[.int .u8 x.f3[i].f0, .string x.f3[i].f1, .int .i64 x.f3[i].f2, .slice A3 x.f3[i].f3.length c3]) := ⟨A3, c3, rfl, hc3, hC3⟩
        have hrl2 : (rs[i]).length ≤ 2199023255552 := by
          have h1 := preA_len rs (rs.length - (i + 1)) (i + 1) (by omega)
          rw [preA_succ rs i hri, List.length_append] at h1
          omega
        by_cases i0 : i = 0
        · have z0 : ((i : Int) == 0) = true := by simp; omega
          have HP : Hid ((P ++ [40]) ++ rs[i] = nm ++ preA rs (i + 1)) := by show _ = _; rw [preA_succ rs i hri, ← hP]; simp [i0]
          clear i0 hP
          go_wp2_with (go_at_call 40; refine (hk x.f3[i] _ rs[i] wr hV (hget i hlt hri)).mono ?_; rintro e w2 ⟨rfl, hb2⟩)
          exact ⟨⟨i + 1, by simp, by omega, by rw [← HP.out, ← app_str2, ← app_str2], hbr.trans (hb2.mono hbr.size)⟩, by simp [intOf]; omega⟩
        · have z0 : ((i : Int) == 0) = false := by simp; omega
          have HP : Hid ((P ++ [44]) ++ rs[i] = nm ++ preA rs (i + 1)) := by show _ = _; rw [preA_succ rs i hri, ← hP]; simp [i0]
          clear i0 hP
          go_wp2_with (go_at_call 40; refine (hk x.f3[i] _ rs[i] wr hV (hget i hlt hri)).mono ?_; rintro e w2 ⟨rfl, hb2⟩)
          exact ⟨⟨i + 1, by simp, by omega, by rw [← HP.out, ← app_str2, ← app_str2], hbr.trans (hb2.mono hbr.size)⟩, by simp [intOf]; omega⟩
      · have hd : decide ((i : Int) < (x.f3.length : Int)) = false := by simp; omega
        have hfin : Hid (P ++ [41] = nm ++ 40 :: joinC rs ++ [41]) := by
          show _ = _
          rw [← hP]
          unfold preA
          rw [if_neg (by omega), List.take_of_length_le (by omega)]
        clear hP
        go_wp2
        go_ret
        refine ⟨?_, hbwr⟩
        rw [← hfin.out, ← app_str2]
        rfl

set_option maxHeartbeats 8000000 in
set_option maxRecDepth 100000 in
theorem refX_brack {k : Nat} (hk : RefOK k) (x : S24) (rs : List (List UInt8)) (A : Option Addr) (c : Nat) (w : World) (hC : Kd.C k24 w A x.f3.length x.f3)
    (hnm : x.f1.size ≤ 200) (h4 : x.f0 = 4) (hne : x.f3 ≠ []) (hcb : consB x = false) (hn : bl x.f1 = [91, 93]) (hrs : mapO (textF k) x.f3 = some rs) (hsm : small rs) :
    Calls Tryd.prog 40 #[.agg #[.int .u8 x.f0, .string x.f1, .int .i64 x.f2, .slice A x.f3.length c]] w fun e w' => e = .returned (.string ⟨(quotedL (bl x.f1) ++ 40 :: joinC rs ++ [41]).toArray⟩) ∧ Below w.heap.size w w' := by
  have hu24 := Tryd.underlying24
  obtain ⟨hrl, hget⟩ := mapO_get _ _ _ hrs
  have hbx : Below w.heap.size w (w.alloc (.cells #[.int .u8 x.f0, .string x.f1, .int .i64 x.f2, .slice A x.f3.length c] 24)) := (Below.refl _ w).alloc (Nat.le_refl _) _
  have hT := (MapKept.heap_alloc w (.cells #[.int .u8 x.f0, .string x.f1, .int .i64 x.f2, .slice A x.f3.length c] 24)).1
  have k1 : (x.f0 == 1) = false := by rw [h4]; rfl
  have k2 : (x.f0 == 2) = false := by rw [h4]; rfl
  have k3 : (x.f0 == 3) = false := by rw [h4]; rfl
  have n1 : (x.f1.toList == [91, 93]) = true := by rw [teq]; exact decide_eq_true hn
  have n2 : (x.f1.toList == [46] && ((x.f3.length : Int) == 2)) = false := by
    rw [teq]
    cases hd : decide (bl x.f1 = [46]) with
    | false => rfl
    | true =>
      rw [Bool.true_and, beq_eq_false_iff_ne]
      intro hl
      have : consB x = true := by
        unfold consB
        rw [h4, of_decide_eq_true hd, show x.f3.length = 2 by omega]
        rfl
      rw [this] at hcb
      cases hcb
  obtain ⟨nm, hnme⟩ : ∃ nm, quotedL (bl x.f1) = nm := ⟨_, rfl⟩
  have hnl : nm.length ≤ 402 := by
    have := quotedL_len2 (bl x.f1)
    rw [bl_length, hnme] at this
    omega
  have hName : ∀ W, Calls Tryd.prog 18 #[.string x.f1] W fun e w' => (∃ z, e = .returned (.string z)) ∧ Below W.heap.size W w' := by
    intro W
    exact (RefW.Name_calls x.f1 W (by omega)).mono (fun e w' h => ⟨⟨_, h.1⟩, h.2⟩)
  have hq : nm = [39, 91, 93, 39] := by rw [← hnme, hn]; decide
  rw [hnme]
  clear hnme h4 hcb
  have hL : 1 ≤ x.f3.length := by
    cases hx : x.f3 with
    | nil => exact absurd hx hne
    | cons _ _ => simp
  have hfull : (preA rs rs.length).length ≤ 1099511627777 := by
    unfold preA
    rw [if_neg (by omega), List.take_of_length_le (Nat.le_refl _), List.length_cons]
    have := hsm.2
    omega
  have hs16 : x.f3.length ≤ 1048576 := by have := hsm.1; omega
  have hdot2 : (x.f1.toList == [46]) = false := by rw [teq, hn]; decide
  have hQ := Lib.hid hq
  clear n2 hn hq
  go_enter Tryd.func40, Tryd.ntmps40
  go_wp2_with (go_at_call 18; refine (hName _).mono ?_; rintro e w1 ⟨⟨z, rfl⟩, hb1⟩; have hT1 := (hb1.block w.heap.size (by rw [World.size_alloc]; omega)).trans hT; have a1 := Lib.cell_of_heap hT1 1; have a3' := Lib.cell_of_heap hT1 3)
  have hb01 : Below w.heap.size w w1 := hbx.trans (hb1.mono hbx.size)
  have hz1 : w.heap.size + 1 ≤ w1.heap.size := by have := hb1.size; rw [World.size_alloc] at this; exact this
  go_wp2
  go_loopw [3, 4] (fun v3 v4 wr => ∃ i : Nat, v4 = .int .i64 i ∧ i ≤ x.f3.length ∧ v3 = .string ⟨(nm ++ preA rs i).toArray⟩ ∧ Below w1.heap.size w1 wr) (fun _ v4 _ => x.f3.length - (intOf v4).toNat)
  case atStart => exact ⟨0, rfl, Nat.zero_le _, by rw [hQ.out]; rfl, Below.refl _ _⟩
  case round =>
    obtain ⟨i, rfl, hi, rfl, hbr⟩ := hrel
    have hTr := (hbr.block w.heap.size (by omega)).trans hT1
    have a3 : wr.cell? ⟨w.heap.size, 3, none⟩ = some (.slice A x.f3.length c) := Lib.cell_of_heap hTr 3
    have hbwr := hb01.trans (hbr.mono hb01.size)
    obtain ⟨P, hP⟩ : ∃ P, nm ++ preA rs i = P := ⟨_, rfl⟩
    have hPl : P.length ≤ 2199023255552 := by
      have := preA_len rs (rs.length - i) i (by omega)
      rw [← hP, List.length_append]
      omega
    rw [hP]
    by_cases hlt : i < x.f3.length
    · have hri : i < rs.length := by omega
      have hd : decide ((i : Int) < (x.f3.length : Int)) = true := by simp; omega
      obtain ⟨ad, A3, c3, rfl, e0, e1, e2, e3, hc3, hC3⟩ := at_T24 (Kd.C_below hC hbwr) i (by omega) (by omega)
      rw [rd_at x.f3 i hlt] at e0 e1 e2 e3 hc3 hC3
      rw [Int.toNat_natCast] at e0 e1 e2 e3
      have hV : TermV wr x.f3[i] (.agg #[.int .u8 x.f3[i].f0, .string x.f3[i].f1, .int .i64 x.f3[i].f2, .slice A3 x.f3[i].f3.length c3]) := ⟨A3, c3, rfl, hc3, hC3⟩
      have hrl2 : (rs[i]).length ≤ 2199023255552 := by
        have h1 := preA_len rs (rs.length - (i + 1)) (i + 1) (by omega)
        rw [preA_succ rs i hri, List.length_append] at h1
        omega
      by_cases i0 : i = 0
      · have z0 : ((i : Int) == 0) = true := by simp; omega
        have HP : Hid ((P ++ [40]) ++ rs[i] = nm ++ preA rs (i + 1)) := by show _ = _; rw [preA_succ rs i hri, ← hP]; simp [i0]
        clear i0 hP
        go_wp2_with (go_at_call 40; refine (hk x.f3[i] _ rs[i] wr hV (hget i hlt hri)).mono ?_; rintro e w2 ⟨rfl, hb2⟩)
        exact ⟨⟨i + 1, by simp, by omega, by rw [← HP.out, ← app_str2, ← app_str2], hbr.trans (hb2.mono hbr.size)⟩, by simp [intOf]; omega⟩
      · have z0 : ((i : Int) == 0) = false := by simp; omega
        have HP : Hid ((P ++ [44]) ++ rs[i] = nm ++ preA rs (i + 1)) := by show _ = _; rw [preA_succ rs i hri, ← hP]; simp [i0]
        clear i0 hP
        go_wp2_with (go_at_call 40; refine (hk x.f3[i] _ rs[i] wr hV (hget i hlt hri)).mono ?_; rintro e w2 ⟨rfl, hb2⟩)
        exact ⟨⟨i + 1, by simp, by omega, by rw [← HP.out, ← app_str2, ← app_str2], hbr.trans (hb2.mono hbr.size)⟩, by simp [intOf]; omega⟩
    · have hd : decide ((i : Int) < (x.f3.length : Int)) = false := by simp; omega
      have hfin : Hid (P ++ [41] = nm ++ 40 :: joinC rs ++ [41]) := by
        show _ = _
        rw [← hP]
        unfold preA
        rw [if_neg (by omega), List.take_of_length_le (by omega)]
      clear hP
      go_wp2
      go_ret
      refine ⟨?_, hbwr⟩
      rw [← hfin.out, ← app_str2]
      rfl

theorem refOK : ∀ k, RefOK k
  | 0 => fun x v r w _ hr => by simp [textF] at hr
  | k + 1 => by
    have hk := refOK k
    intro x v r w hV hr
    obtain ⟨A, c, rfl, hc, hC⟩ := id hV
    unfold textF at hr
    by_cases hbd : x.f1.size ≤ 200 ∧ -9223372036854775808 ≤ x.f2 ∧ x.f2 ≤ 9223372036854775807
    rotate_left
    · rw [if_pos hbd] at hr; cases hr
    rw [if_neg (fun h => h hbd)] at hr
    obtain ⟨hnm, hlo, hhi⟩ := hbd
    by_cases c1 : x.f0 = 1
    · rw [if_pos c1] at hr
      obtain rfl := Option.some.inj hr
      rw [c1]
      exact refX_var x.f1 x.f2 A _ c w hlo hhi
    rw [if_neg c1] at hr
    by_cases c2 : x.f0 = 2
    · rw [if_pos c2] at hr
      obtain rfl := Option.some.inj hr
      rw [c2]
      exact refX_int x.f1 x.f2 A _ c w hlo hhi
    rw [if_neg c2] at hr
    by_cases c3 : x.f0 = 3
    · rw [if_pos c3] at hr
      obtain rfl := Option.some.inj hr
      rw [c3]
      exact refX_atom x.f1 x.f2 A _ c w hnm
    rw [if_neg c3] at hr
    by_cases c5 : x.f0 ≠ 4 ∨ x.f3 = []
    · rw [if_pos c5] at hr; cases hr
    rw [if_neg c5] at hr
    have h4 : x.f0 = 4 := Classical.byContradiction (fun h => c5 (.inl h))
    have hne : x.f3 ≠ [] := fun h => c5 (.inr h)
    by_cases c4 : consB x = true
    · rw [if_pos c4] at hr
      simp only [Option.bind_eq_some_iff] at hr
      obtain ⟨⟨xs, rest⟩, hsp, rs, hrs, hr⟩ := hr
      by_cases hsm : small rs
      · rw [if_pos hsm] at hr
        cases k with
        | zero => simp [spine] at hsp
        | succ kk =>
          simp only [spine, if_pos c4, Option.bind_eq_some_iff] at hsp
          obtain ⟨p, hp, h⟩ := hsp
          have h := Option.some.inj h
          injection h with h1 h2
          subst h1
          subst h2
          simp only [mapO, Option.bind_eq_some_iff] at hrs
          obtain ⟨r0, hr0, rs', hrs', h⟩ := hrs
          obtain rfl := Option.some.inj h
          by_cases hr3 : p.2.f0 ≠ 3 ∨ bl p.2.f1 ≠ [91, 93]
          · rw [if_pos hr3] at hr
            simp only [Option.bind_eq_some_iff] at hr
            obtain ⟨q, hq, hr⟩ := hr
            by_cases hql : q.length ≤ 1099511627776
            · rw [if_pos hql] at hr
              obtain rfl := Option.some.inj hr
              have := refX_cons hk x p.2 p.1 r0 rs' (124 :: q ++ [93]) _ w hV c4 hp hr0 hrs' (.inr ⟨fun h => hr3.elim (fun g => g h.1) (fun g => g h.2), q, hq, hql, rfl⟩) hsm.2
              simpa using this
            · rw [if_neg hql] at hr; cases hr
          · rw [if_neg hr3] at hr
            have h3 : p.2.f0 = 3 := Classical.byContradiction (fun h => hr3 (.inl h))
            have h4' : bl p.2.f1 = [91, 93] := Classical.byContradiction (fun h => hr3 (.inr h))
            obtain rfl := Option.some.inj hr
            exact refX_cons hk x p.2 p.1 r0 rs' [93] _ w hV c4 hp hr0 hrs' (.inl ⟨h3, h4', rfl⟩) hsm.2
      · rw [if_neg hsm] at hr; cases hr
    · rw [if_neg c4] at hr
      simp only [Option.bind_eq_some_iff] at hr
      obtain ⟨rs, hrs, hr⟩ := hr
      have c4' : consB x = false := by simpa using c4
      by_cases hsm : small rs
      · rw [if_pos hsm] at hr
        by_cases hn : bl x.f1 = [91, 93]
        · rw [if_pos hn] at hr
          obtain rfl := Option.some.inj hr
          exact refX_brack hk x rs A c w hC hnm h4 hne c4' hn hrs hsm
        · rw [if_neg hn] at hr
          obtain rfl := Option.some.inj hr
          exact refX_struct hk x rs A c w hC hnm h4 hne c4' hn hrs hsm
      · rw [if_neg hsm] at hr; cases hr
end Go.Proofs.YthnjdfblappkfaaDoor
end
