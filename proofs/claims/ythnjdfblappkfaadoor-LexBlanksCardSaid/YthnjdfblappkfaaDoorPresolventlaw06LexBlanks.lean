-- Written by a program (p2.py over the kit's print). Not trusted: Lean checks it.
import Derived.Test.YthnjdfblappkfaaDoorP0
import Derived.Test.YthnjdfblappkfaaDoorLaid
import Derived.Test.YthnjdfblappkfaaDoorPEq49
import Derived.Test.YthnjdfblappkfaaDoorPresolventlaw06wakes
import Derived.Test.YthnjdfblappkfaaDoorLexW
import Derived.Test.YthnjdfblappkfaaDoorPresolventlaw06LexBlanksF
namespace Go.Proofs.YthnjdfblappkfaaDoor.P
open Go.RowKit Go.Proofs.YthnjdfblappkfaaDoorW.PrintWords Go.Proofs.YthnjdfblappkfaaDoorW.PrintLast Go.Proofs.YthnjdfblappkfaaDoorW.PrintMore
attribute [local go_sem] max2_int min2_int max_two min_two max_three min_three max_four min_four   -- for this text's walks alone
set_option linter.unusedVariables false
set_option linter.unusedSimpArgs false

attribute [local go_sem high] eqA49
set_option maxHeartbeats 8000000 in
set_option maxRecDepth 100000 in
theorem resolventlaw06_LexBlanks.calls (k : Nat) (a0 : ByteArray) (a1 : ByteArray) (r : Bool) (w : World) (hL : LaidE w) (h : resolventlaw06_LexBlanks.f k a0 a1 = some r) (hr : r = true) :
    Calls Tryd.prog 9 #[.string a0, .string a1] w fun e w' => e = .returned (.bool r) ∧ Below w.heap.size w w' := by
  have hu49 := Tryd.underlying49
  have HB := Aside0.mk (Below.refl w.heap.size w)
  have H : (if (a0.size : Int) > 1000 then (resolventlaw06_LexBlanks.j0 k a0 a1 true) else (resolventlaw06_LexBlanks.j0 k a0 a1 (decide ((a1.size : Int) > 1000)))) = some r := h
  clear h
  have HC3 := Aside0.mk H
  clear H
  go_enter Tryd.func9, Tryd.ntmps9
  go_upto_region 1 with (fail)
  repeat (go_quiet (fail); go_upto_region 1 with (fail))
  go_cut [29] (fun v29 wc => ∃ (kq : Nat) (x29_2 : Bool), v29 = .bool x29_2 ∧ Aside0 (resolventlaw06_LexBlanks.j0 kq a0 a1 x29_2 = some r) ∧ Aside0 (kq ≤ k) ∧ Aside0 (Below w.heap.size w wc))
  case first =>
    have H := HC3.out
    clear HC3
    by_cases c4 : (a0.size : Int) > 1000
    · rw [if_pos c4] at H
      have c4b0 : decide (1000 < (a0.size : Int)) = true := decide_eq_true c4
      have c4b1 : decide (1000 < a0.size) = true := decide_eq_true (by omega)
      clear c4
      (first | rw [c4b0] | (simp only [i64_w, i32_w]; rw [c4b0]) | skip)
      as_aux_lemma =>
        have H' := Aside0.mk H
        clear H
        go_wp2
        repeat (go_quiet (fail); try go_wp2)
        go_meet
        case rel => exact ⟨_, (true), (by first | rfl | (simp; done) | (simp [*]; done)), H', ⟨by first | omega | exact Nat.le_refl _⟩, ⟨by repeat (first | (with_reducible first | exact HB.out | apply below_alloc | apply pw_below_drewN | apply below_drew1) | exact HB.out)⟩⟩
    · rw [if_neg c4] at H
      have c4b0 : decide (1000 < (a0.size : Int)) = false := decide_eq_false c4
      have c4b1 : decide (1000 < a0.size) = false := decide_eq_false (by omega)
      clear c4
      (first | rw [c4b0] | (simp only [i64_w, i32_w]; rw [c4b0]) | skip)
      as_aux_lemma =>
        have H' := Aside0.mk H
        clear H
        go_wp2
        repeat (go_quiet (fail); try go_wp2)
        go_meet
        case rel => exact ⟨_, (decide ((a1.size : Int) > 1000)), (by first | rfl | (simp; done) | (simp [*]; done)), H', ⟨by first | omega | exact Nat.le_refl _⟩, ⟨by repeat (first | (with_reducible first | exact HB.out | apply below_alloc | apply pw_below_drewN | apply below_drew1) | exact HB.out)⟩⟩
  case rest =>
    clear HC3
    try clear p2
    try clear c4
    try clear c4b0
    try clear c4b1
    obtain ⟨kq, x29_2, rfl, HA, HJ2, HB⟩ := hcut
    cases kq with
    | zero => exact absurd HA.out (by simp [resolventlaw06_LexBlanks.j0])
    | succ kj2 =>
      have H := HA.out
      clear HA
      simp only [resolventlaw06_LexBlanks.j0] at H
      by_cases c5 : x29_2 = true
      · subst c5
        have H1 : ((resolventlaw06_wakes.f).bind fun t227 => (some t227)) = some r := by rw [if_pos rfl] at H; exact H
        clear H
        have H := H1
        clear H1
        replace H := Option.bind_eq_some_iff.mp H
        obtain ⟨t227, A60, H⟩ := H
        replace H : (some t227) = some r := H
        have A6 := Aside0.mk A60
        clear A60
        as_aux_lemma =>
          obtain rfl := Option.some.inj H
          go_wp2_with (first | (go_at_call 24; (with_reducible refine (resolventlaw06_wakes.calls  t227 _ (hL.below (by repeat (first | (with_reducible first | exact HB.out | exact Below.refl _ _ | apply below_alloc | apply pw_below_drewN | apply below_drew1) | exact HB.out))) A6.out).mono ?_); rintro e w7 ⟨rfl, hb⟩; have n0_ := Aside0.mk (below_step (by repeat (first | (with_reducible first | exact HB.out | apply below_alloc | apply pw_below_drewN | apply below_drew1) | exact HB.out)) hb); clear HB; have HB := n0_; clear n0_; (try clear hb); (try clear hb2); (try clear hk); (try clear hi)))
          repeat (go_quiet (first | (go_at_call 24; (with_reducible refine (resolventlaw06_wakes.calls  t227 _ (hL.below (by repeat (first | (with_reducible first | exact HB.out | exact Below.refl _ _ | apply below_alloc | apply pw_below_drewN | apply below_drew1) | exact HB.out))) A6.out).mono ?_); rintro e w7 ⟨rfl, hb⟩; have n0_ := Aside0.mk (below_step (by repeat (first | (with_reducible first | exact HB.out | apply below_alloc | apply pw_below_drewN | apply below_drew1) | exact HB.out)) hb); clear HB; have HB := n0_; clear n0_; (try clear hb); (try clear hb2); (try clear hk); (try clear hi))); try go_wp2_with (first | (go_at_call 24; (with_reducible refine (resolventlaw06_wakes.calls  t227 _ (hL.below (by repeat (first | (with_reducible first | exact HB.out | exact Below.refl _ _ | apply below_alloc | apply pw_below_drewN | apply below_drew1) | exact HB.out))) A6.out).mono ?_); rintro e w7 ⟨rfl, hb⟩; have n0_ := Aside0.mk (below_step (by repeat (first | (with_reducible first | exact HB.out | apply below_alloc | apply pw_below_drewN | apply below_drew1) | exact HB.out)) hb); clear HB; have HB := n0_; clear n0_; (try clear hb); (try clear hb2); (try clear hk); (try clear hi))))
          go_ret
          exact ⟨by first | rfl | (simp [errW_none, errW_some] <;> rfl) | (simp [*, errW_none, errW_some] <;> rfl), by repeat (first | (with_reducible first | exact HB.out | apply below_alloc | apply pw_below_drewN | apply below_drew1) | exact HB.out)⟩
      · replace c5 := Bool.eq_false_iff.mpr c5
        subst c5
        have H1 : ((lex_Lex.f a0).bind fun bt228 => ((lex_Lex.f a1).bind fun bt233 => (if 14 + a1.size ≤ 9223372036854775807 then ((lex_Lex.f ((⟨#[32, 47, 42, 32, 120, 32, 42, 47, 32, 37, 32, 121, 10, 9]⟩ : ByteArray) ++ a1)).bind fun bt238 => (if bt238.2.2 = bt233.2.2 then (if (bt238.1.length : Int) = (bt233.1.length : Int) then (if bt233.2.2 = 0 then (resolventlaw06_LexBlanks.j1 kj2 a0 a1 bt228.1 bt228.2.2 bt233.1 bt233.2.1 bt233.2.2 (⟨#[32, 47, 42, 32, 120, 32, 42, 47, 32, 37, 32, 121, 10, 9]⟩ : ByteArray) bt238.1 false) else (resolventlaw06_LexBlanks.j1 kj2 a0 a1 bt228.1 bt228.2.2 bt233.1 bt233.2.1 bt233.2.2 (⟨#[32, 47, 42, 32, 120, 32, 42, 47, 32, 37, 32, 121, 10, 9]⟩ : ByteArray) bt238.1 (bt238.2.1 != (wrap64 (bt233.2.1 + 14))))) else (resolventlaw06_LexBlanks.j1 kj2 a0 a1 bt228.1 bt228.2.2 bt233.1 bt233.2.1 bt233.2.2 (⟨#[32, 47, 42, 32, 120, 32, 42, 47, 32, 37, 32, 121, 10, 9]⟩ : ByteArray) bt238.1 true)) else (resolventlaw06_LexBlanks.j1 kj2 a0 a1 bt228.1 bt228.2.2 bt233.1 bt233.2.1 bt233.2.2 (⟨#[32, 47, 42, 32, 120, 32, 42, 47, 32, 37, 32, 121, 10, 9]⟩ : ByteArray) bt238.1 true))) else (none)))) = some r := by rw [if_neg (show ¬ (false = true) by decide)] at H; exact H
        clear H
        have H := H1
        clear H1
        replace H := Option.bind_eq_some_iff.mp H
        obtain ⟨⟨t228, t229, t230⟩, A80, H⟩ := H
        replace H : ((lex_Lex.f a1).bind fun bt233 => (if 14 + a1.size ≤ 9223372036854775807 then ((lex_Lex.f ((⟨#[32, 47, 42, 32, 120, 32, 42, 47, 32, 37, 32, 121, 10, 9]⟩ : ByteArray) ++ a1)).bind fun bt238 => (if bt238.2.2 = bt233.2.2 then (if (bt238.1.length : Int) = (bt233.1.length : Int) then (if bt233.2.2 = 0 then (resolventlaw06_LexBlanks.j1 kj2 a0 a1 t228 t230 bt233.1 bt233.2.1 bt233.2.2 (⟨#[32, 47, 42, 32, 120, 32, 42, 47, 32, 37, 32, 121, 10, 9]⟩ : ByteArray) bt238.1 false) else (resolventlaw06_LexBlanks.j1 kj2 a0 a1 t228 t230 bt233.1 bt233.2.1 bt233.2.2 (⟨#[32, 47, 42, 32, 120, 32, 42, 47, 32, 37, 32, 121, 10, 9]⟩ : ByteArray) bt238.1 (bt238.2.1 != (wrap64 (bt233.2.1 + 14))))) else (resolventlaw06_LexBlanks.j1 kj2 a0 a1 t228 t230 bt233.1 bt233.2.1 bt233.2.2 (⟨#[32, 47, 42, 32, 120, 32, 42, 47, 32, 37, 32, 121, 10, 9]⟩ : ByteArray) bt238.1 true)) else (resolventlaw06_LexBlanks.j1 kj2 a0 a1 t228 t230 bt233.1 bt233.2.1 bt233.2.2 (⟨#[32, 47, 42, 32, 120, 32, 42, 47, 32, 37, 32, 121, 10, 9]⟩ : ByteArray) bt238.1 true))) else (none))) = some r := H
        have A8 := Aside0.mk A80
        clear A80
        replace H := Option.bind_eq_some_iff.mp H
        obtain ⟨⟨t233, t234, t235⟩, A90, H⟩ := H
        replace H : (if 14 + a1.size ≤ 9223372036854775807 then ((lex_Lex.f ((⟨#[32, 47, 42, 32, 120, 32, 42, 47, 32, 37, 32, 121, 10, 9]⟩ : ByteArray) ++ a1)).bind fun bt238 => (if bt238.2.2 = t235 then (if (bt238.1.length : Int) = (t233.length : Int) then (if t235 = 0 then (resolventlaw06_LexBlanks.j1 kj2 a0 a1 t228 t230 t233 t234 t235 (⟨#[32, 47, 42, 32, 120, 32, 42, 47, 32, 37, 32, 121, 10, 9]⟩ : ByteArray) bt238.1 false) else (resolventlaw06_LexBlanks.j1 kj2 a0 a1 t228 t230 t233 t234 t235 (⟨#[32, 47, 42, 32, 120, 32, 42, 47, 32, 37, 32, 121, 10, 9]⟩ : ByteArray) bt238.1 (bt238.2.1 != (wrap64 (t234 + 14))))) else (resolventlaw06_LexBlanks.j1 kj2 a0 a1 t228 t230 t233 t234 t235 (⟨#[32, 47, 42, 32, 120, 32, 42, 47, 32, 37, 32, 121, 10, 9]⟩ : ByteArray) bt238.1 true)) else (resolventlaw06_LexBlanks.j1 kj2 a0 a1 t228 t230 t233 t234 t235 (⟨#[32, 47, 42, 32, 120, 32, 42, 47, 32, 37, 32, 121, 10, 9]⟩ : ByteArray) bt238.1 true))) else (none)) = some r := H
        have A9 := Aside0.mk A90
        clear A90
        by_cases c10 : 14 + a1.size ≤ 9223372036854775807
        · rw [if_pos c10] at H
          have c10b0 := eq_true c10
          have c10b1 : decide (14 + a1.size ≤ 9223372036854775807) = true := decide_eq_true c10
          try have c10b2 : (9223372036854775807 < 14 + a1.size) = False := eq_false (Nat.not_lt.2 c10)
          replace H := Option.bind_eq_some_iff.mp H
          obtain ⟨⟨t238, t239, t240⟩, A110, H⟩ := H
          replace H : (if t240 = t235 then (if (t238.length : Int) = (t233.length : Int) then (if t235 = 0 then (resolventlaw06_LexBlanks.j1 kj2 a0 a1 t228 t230 t233 t234 t235 (⟨#[32, 47, 42, 32, 120, 32, 42, 47, 32, 37, 32, 121, 10, 9]⟩ : ByteArray) t238 false) else (resolventlaw06_LexBlanks.j1 kj2 a0 a1 t228 t230 t233 t234 t235 (⟨#[32, 47, 42, 32, 120, 32, 42, 47, 32, 37, 32, 121, 10, 9]⟩ : ByteArray) t238 (t239 != (wrap64 (t234 + 14))))) else (resolventlaw06_LexBlanks.j1 kj2 a0 a1 t228 t230 t233 t234 t235 (⟨#[32, 47, 42, 32, 120, 32, 42, 47, 32, 37, 32, 121, 10, 9]⟩ : ByteArray) t238 true)) else (resolventlaw06_LexBlanks.j1 kj2 a0 a1 t228 t230 t233 t234 t235 (⟨#[32, 47, 42, 32, 120, 32, 42, 47, 32, 37, 32, 121, 10, 9]⟩ : ByteArray) t238 true)) = some r := H
          have A11 := Aside0.mk A110
          clear A110
          have HC12 := Aside0.mk H
          clear H
          go_upto_region 7 with (first | (go_at_call 25; (with_reducible refine (lex_Lex.calls a0 t228 t229 t230 _ (hL.below (by repeat (first | (with_reducible first | exact HB.out | exact Below.refl _ _ | apply below_alloc | apply pw_below_drewN | apply below_drew1) | exact HB.out))) A8.out).mono ?_); rintro e w13 ⟨v231, rfl, ho0, hb⟩; have n0_ := Aside0.mk (Kd.R_lower ho0 (below_size (by repeat (first | (with_reducible first | exact HB.out | apply below_alloc | apply pw_below_drewN | apply below_drew1) | exact HB.out)))); have n1_ := Aside0.mk (below_step (by repeat (first | (with_reducible first | exact HB.out | apply below_alloc | apply pw_below_drewN | apply below_drew1) | exact HB.out)) hb); clear HB; have HO232 := n0_; have HB := n1_; clear n0_ n1_; (try clear hb); (try clear hb2); (try clear hk); (try clear hi); (try clear ho0)) | (go_at_call 25; (with_reducible refine (lex_Lex.calls a1 t233 t234 t235 _ (hL.below (by repeat (first | (with_reducible first | exact HB.out | exact Below.refl _ _ | apply below_alloc | apply pw_below_drewN | apply below_drew1) | exact HB.out))) A9.out).mono ?_); rintro e w14 ⟨v236, rfl, ho0, hb⟩; have n0_ := Aside0.mk (Kd.R_elder' (by (with_reducible repeat (first | apply Kd.R_alloc | apply Kd.R_drewN | apply Kd.R_drew)); exact HO232.out) (Kd.R_base ho0) hb); have n1_ := Aside0.mk (Kd.R_lower (Kd.R_new' ho0 (Kd.R_lt (by (with_reducible repeat (first | apply Kd.R_alloc | apply Kd.R_drewN | apply Kd.R_drew)); exact HO232.out))) (below_size (by repeat (first | (with_reducible first | exact HB.out | apply below_alloc | apply pw_below_drewN | apply below_drew1) | exact HB.out)))); have n2_ := Aside0.mk (below_step (by repeat (first | (with_reducible first | exact HB.out | apply below_alloc | apply pw_below_drewN | apply below_drew1) | exact HB.out)) hb); clear HO232; clear HB; have HO232 := n0_; have HO237 := n1_; have HB := n2_; clear n0_ n1_ n2_; (try clear hb); (try clear hb2); (try clear hk); (try clear hi); (try clear ho0)) | (go_at_call 25; (with_reducible refine (lex_Lex.calls ((⟨#[32, 47, 42, 32, 120, 32, 42, 47, 32, 37, 32, 121, 10, 9]⟩ : ByteArray) ++ a1) t238 t239 t240 _ (hL.below (by repeat (first | (with_reducible first | exact HB.out | exact Below.refl _ _ | apply below_alloc | apply pw_below_drewN | apply below_drew1) | exact HB.out))) A11.out).mono ?_); rintro e w15 ⟨v241, rfl, ho0, hb⟩; have n0_ := Aside0.mk (Kd.R_elder' (by (with_reducible repeat (first | apply Kd.R_alloc | apply Kd.R_drewN | apply Kd.R_drew)); exact HO232.out) (Kd.R_base ho0) hb); have n1_ := Aside0.mk (Kd.R_elder' (by (with_reducible repeat (first | apply Kd.R_alloc | apply Kd.R_drewN | apply Kd.R_drew)); exact HO237.out) (Kd.R_base ho0) hb); have n2_ := Aside0.mk (Kd.R_lower (Kd.R_new' (Kd.R_new' ho0 (Kd.R_lt (by (with_reducible repeat (first | apply Kd.R_alloc | apply Kd.R_drewN | apply Kd.R_drew)); exact HO232.out))) (Kd.R_lt (by (with_reducible repeat (first | apply Kd.R_alloc | apply Kd.R_drewN | apply Kd.R_drew)); exact HO237.out))) (below_size (by repeat (first | (with_reducible first | exact HB.out | apply below_alloc | apply pw_below_drewN | apply below_drew1) | exact HB.out)))); have n3_ := Aside0.mk (below_step (by repeat (first | (with_reducible first | exact HB.out | apply below_alloc | apply pw_below_drewN | apply below_drew1) | exact HB.out)) hb); clear HO232; clear HO237; clear HB; have HO232 := n0_; have HO237 := n1_; have HO242 := n2_; have HB := n3_; clear n0_ n1_ n2_ n3_; (try clear hb); (try clear hb2); (try clear hk); (try clear hi); (try clear ho0)))
          repeat (go_quiet (first | (go_at_call 25; (with_reducible refine (lex_Lex.calls a0 t228 t229 t230 _ (hL.below (by repeat (first | (with_reducible first | exact HB.out | exact Below.refl _ _ | apply below_alloc | apply pw_below_drewN | apply below_drew1) | exact HB.out))) A8.out).mono ?_); rintro e w13 ⟨v231, rfl, ho0, hb⟩; have n0_ := Aside0.mk (Kd.R_lower ho0 (below_size (by repeat (first | (with_reducible first | exact HB.out | apply below_alloc | apply pw_below_drewN | apply below_drew1) | exact HB.out)))); have n1_ := Aside0.mk (below_step (by repeat (first | (with_reducible first | exact HB.out | apply below_alloc | apply pw_below_drewN | apply below_drew1) | exact HB.out)) hb); clear HB; have HO232 := n0_; have HB := n1_; clear n0_ n1_; (try clear hb); (try clear hb2); (try clear hk); (try clear hi); (try clear ho0)) | (go_at_call 25; (with_reducible refine (lex_Lex.calls a1 t233 t234 t235 _ (hL.below (by repeat (first | (with_reducible first | exact HB.out | exact Below.refl _ _ | apply below_alloc | apply pw_below_drewN | apply below_drew1) | exact HB.out))) A9.out).mono ?_); rintro e w14 ⟨v236, rfl, ho0, hb⟩; have n0_ := Aside0.mk (Kd.R_elder' (by (with_reducible repeat (first | apply Kd.R_alloc | apply Kd.R_drewN | apply Kd.R_drew)); exact HO232.out) (Kd.R_base ho0) hb); have n1_ := Aside0.mk (Kd.R_lower (Kd.R_new' ho0 (Kd.R_lt (by (with_reducible repeat (first | apply Kd.R_alloc | apply Kd.R_drewN | apply Kd.R_drew)); exact HO232.out))) (below_size (by repeat (first | (with_reducible first | exact HB.out | apply below_alloc | apply pw_below_drewN | apply below_drew1) | exact HB.out)))); have n2_ := Aside0.mk (below_step (by repeat (first | (with_reducible first | exact HB.out | apply below_alloc | apply pw_below_drewN | apply below_drew1) | exact HB.out)) hb); clear HO232; clear HB; have HO232 := n0_; have HO237 := n1_; have HB := n2_; clear n0_ n1_ n2_; (try clear hb); (try clear hb2); (try clear hk); (try clear hi); (try clear ho0)) | (go_at_call 25; (with_reducible refine (lex_Lex.calls ((⟨#[32, 47, 42, 32, 120, 32, 42, 47, 32, 37, 32, 121, 10, 9]⟩ : ByteArray) ++ a1) t238 t239 t240 _ (hL.below (by repeat (first | (with_reducible first | exact HB.out | exact Below.refl _ _ | apply below_alloc | apply pw_below_drewN | apply below_drew1) | exact HB.out))) A11.out).mono ?_); rintro e w15 ⟨v241, rfl, ho0, hb⟩; have n0_ := Aside0.mk (Kd.R_elder' (by (with_reducible repeat (first | apply Kd.R_alloc | apply Kd.R_drewN | apply Kd.R_drew)); exact HO232.out) (Kd.R_base ho0) hb); have n1_ := Aside0.mk (Kd.R_elder' (by (with_reducible repeat (first | apply Kd.R_alloc | apply Kd.R_drewN | apply Kd.R_drew)); exact HO237.out) (Kd.R_base ho0) hb); have n2_ := Aside0.mk (Kd.R_lower (Kd.R_new' (Kd.R_new' ho0 (Kd.R_lt (by (with_reducible repeat (first | apply Kd.R_alloc | apply Kd.R_drewN | apply Kd.R_drew)); exact HO232.out))) (Kd.R_lt (by (with_reducible repeat (first | apply Kd.R_alloc | apply Kd.R_drewN | apply Kd.R_drew)); exact HO237.out))) (below_size (by repeat (first | (with_reducible first | exact HB.out | apply below_alloc | apply pw_below_drewN | apply below_drew1) | exact HB.out)))); have n3_ := Aside0.mk (below_step (by repeat (first | (with_reducible first | exact HB.out | apply below_alloc | apply pw_below_drewN | apply below_drew1) | exact HB.out)) hb); clear HO232; clear HO237; clear HB; have HO232 := n0_; have HO237 := n1_; have HO242 := n2_; have HB := n3_; clear n0_ n1_ n2_ n3_; (try clear hb); (try clear hb2); (try clear hk); (try clear hi); (try clear ho0))); go_upto_region 7 with (first | (go_at_call 25; (with_reducible refine (lex_Lex.calls a0 t228 t229 t230 _ (hL.below (by repeat (first | (with_reducible first | exact HB.out | exact Below.refl _ _ | apply below_alloc | apply pw_below_drewN | apply below_drew1) | exact HB.out))) A8.out).mono ?_); rintro e w13 ⟨v231, rfl, ho0, hb⟩; have n0_ := Aside0.mk (Kd.R_lower ho0 (below_size (by repeat (first | (with_reducible first | exact HB.out | apply below_alloc | apply pw_below_drewN | apply below_drew1) | exact HB.out)))); have n1_ := Aside0.mk (below_step (by repeat (first | (with_reducible first | exact HB.out | apply below_alloc | apply pw_below_drewN | apply below_drew1) | exact HB.out)) hb); clear HB; have HO232 := n0_; have HB := n1_; clear n0_ n1_; (try clear hb); (try clear hb2); (try clear hk); (try clear hi); (try clear ho0)) | (go_at_call 25; (with_reducible refine (lex_Lex.calls a1 t233 t234 t235 _ (hL.below (by repeat (first | (with_reducible first | exact HB.out | exact Below.refl _ _ | apply below_alloc | apply pw_below_drewN | apply below_drew1) | exact HB.out))) A9.out).mono ?_); rintro e w14 ⟨v236, rfl, ho0, hb⟩; have n0_ := Aside0.mk (Kd.R_elder' (by (with_reducible repeat (first | apply Kd.R_alloc | apply Kd.R_drewN | apply Kd.R_drew)); exact HO232.out) (Kd.R_base ho0) hb); have n1_ := Aside0.mk (Kd.R_lower (Kd.R_new' ho0 (Kd.R_lt (by (with_reducible repeat (first | apply Kd.R_alloc | apply Kd.R_drewN | apply Kd.R_drew)); exact HO232.out))) (below_size (by repeat (first | (with_reducible first | exact HB.out | apply below_alloc | apply pw_below_drewN | apply below_drew1) | exact HB.out)))); have n2_ := Aside0.mk (below_step (by repeat (first | (with_reducible first | exact HB.out | apply below_alloc | apply pw_below_drewN | apply below_drew1) | exact HB.out)) hb); clear HO232; clear HB; have HO232 := n0_; have HO237 := n1_; have HB := n2_; clear n0_ n1_ n2_; (try clear hb); (try clear hb2); (try clear hk); (try clear hi); (try clear ho0)) | (go_at_call 25; (with_reducible refine (lex_Lex.calls ((⟨#[32, 47, 42, 32, 120, 32, 42, 47, 32, 37, 32, 121, 10, 9]⟩ : ByteArray) ++ a1) t238 t239 t240 _ (hL.below (by repeat (first | (with_reducible first | exact HB.out | exact Below.refl _ _ | apply below_alloc | apply pw_below_drewN | apply below_drew1) | exact HB.out))) A11.out).mono ?_); rintro e w15 ⟨v241, rfl, ho0, hb⟩; have n0_ := Aside0.mk (Kd.R_elder' (by (with_reducible repeat (first | apply Kd.R_alloc | apply Kd.R_drewN | apply Kd.R_drew)); exact HO232.out) (Kd.R_base ho0) hb); have n1_ := Aside0.mk (Kd.R_elder' (by (with_reducible repeat (first | apply Kd.R_alloc | apply Kd.R_drewN | apply Kd.R_drew)); exact HO237.out) (Kd.R_base ho0) hb); have n2_ := Aside0.mk (Kd.R_lower (Kd.R_new' (Kd.R_new' ho0 (Kd.R_lt (by (with_reducible repeat (first | apply Kd.R_alloc | apply Kd.R_drewN | apply Kd.R_drew)); exact HO232.out))) (Kd.R_lt (by (with_reducible repeat (first | apply Kd.R_alloc | apply Kd.R_drewN | apply Kd.R_drew)); exact HO237.out))) (below_size (by repeat (first | (with_reducible first | exact HB.out | apply below_alloc | apply pw_below_drewN | apply below_drew1) | exact HB.out)))); have n3_ := Aside0.mk (below_step (by repeat (first | (with_reducible first | exact HB.out | apply below_alloc | apply pw_below_drewN | apply below_drew1) | exact HB.out)) hb); clear HO232; clear HO237; clear HB; have HO232 := n0_; have HO237 := n1_; have HO242 := n2_; have HB := n3_; clear n0_ n1_ n2_ n3_; (try clear hb); (try clear hb2); (try clear hk); (try clear hi); (try clear ho0))))
          (try simp only [Act.put, List.setIfInBounds_toArray, List.set_cons_zero, List.set_cons_succ])
          go_cut [72] (fun v72 wc => ∃ (kq : Nat) (x72_11 : Bool), v72 = .bool x72_11 ∧ Aside0 (resolventlaw06_LexBlanks.j1 kq a0 a1 t228 t230 t233 t234 t235 (⟨#[32, 47, 42, 32, 120, 32, 42, 47, 32, 37, 32, 121, 10, 9]⟩ : ByteArray) t238 x72_11 = some r) ∧ Aside0 (kq ≤ kj2) ∧ Aside0 (Kd.R k49 49 wc w.heap.size (fun k_ => some k_ ≠ (v236 : Value).ownBlock ∧ some k_ ≠ (v241 : Value).ownBlock) v231 t228) ∧ Aside0 (Kd.R k49 49 wc w.heap.size (fun k_ => some k_ ≠ (v231 : Value).ownBlock ∧ some k_ ≠ (v241 : Value).ownBlock) v236 t233) ∧ Aside0 (Kd.R k49 49 wc w.heap.size (fun k_ => some k_ ≠ (v231 : Value).ownBlock ∧ some k_ ≠ (v236 : Value).ownBlock) v241 t238) ∧ Aside0 (Below w.heap.size w wc))
          case first =>
            have H := HC12.out
            clear HC12
            by_cases c16 : t240 = t235
            · rw [if_pos c16] at H
              have c16b0 : (t240 == t235) = true := beq_iff_eq.mpr c16
              have c16b1 : (t240 != t235) = false := bne_eq_false_iff_eq.mpr c16
              clear c16
              (first | rw [c16b0] | (simp only [i64_w, i32_w]; rw [c16b0]) | skip)
              by_cases c17 : (t238.length : Int) = (t233.length : Int)
              · rw [if_pos c17] at H
                have c17b0 : ((t238.length : Int) == (t233.length : Int)) = true := beq_iff_eq.mpr c17
                have c17b1 : ((t238.length : Int) != (t233.length : Int)) = false := bne_eq_false_iff_eq.mpr c17
                have c17b2 : (t238.length == t233.length) = true := by first | simpa using c17 | (simp at c17 ⊢; omega)
                clear c17
                by_cases c18 : t235 = 0
                · rw [if_pos c18] at H
                  have c18b0 : (t235 == 0) = true := beq_iff_eq.mpr c18
                  have c18b1 : (t235 != 0) = false := bne_eq_false_iff_eq.mpr c18
                  clear c18
                  as_aux_lemma =>
                    have H' := Aside0.mk H
                    clear H
                    obtain ⟨Ao19, co19, eo19⟩ := Kd.R_slice HO242.out
                    subst eo19
                    obtain ⟨Ao20, co20, eo20⟩ := Kd.R_slice HO237.out
                    subst eo20
                    go_wp2
                    repeat (go_quiet (fail); try go_wp2)
                    go_meet
                    case rel => exact ⟨_, (false), (by first | rfl | (simp; done) | (simp [*]; done)), H', ⟨by have := HJ2.out; first | omega | exact Nat.le_refl _⟩, ⟨by (with_reducible repeat (first | apply Kd.R_alloc | apply Kd.R_drewN | apply Kd.R_drew)); exact Kd.R_mono HO232.out (fun _ hk => ⟨hk.1.2, hk.2⟩)⟩, ⟨by (with_reducible repeat (first | apply Kd.R_alloc | apply Kd.R_drewN | apply Kd.R_drew)); exact Kd.R_mono HO237.out (fun _ hk => ⟨hk.1.2, hk.2⟩)⟩, ⟨by (with_reducible repeat (first | apply Kd.R_alloc | apply Kd.R_drewN | apply Kd.R_drew)); exact Kd.R_mono HO242.out (fun _ hk => ⟨hk.1.2, hk.2⟩)⟩, ⟨by repeat (first | (with_reducible first | exact HB.out | apply below_alloc | apply pw_below_drewN | apply below_drew1) | exact HB.out)⟩⟩
                · rw [if_neg c18] at H
                  have c18b0 : (t235 == 0) = false := beq_eq_false_iff_ne.mpr c18
                  have c18b1 : (t235 != 0) = true := bne_iff_ne.mpr c18
                  as_aux_lemma =>
                    have H' := Aside0.mk H
                    clear H
                    obtain ⟨Ao21, co21, eo21⟩ := Kd.R_slice HO242.out
                    subst eo21
                    obtain ⟨Ao22, co22, eo22⟩ := Kd.R_slice HO237.out
                    subst eo22
                    go_wp2
                    repeat (go_quiet (fail); try go_wp2)
                    go_meet
                    case rel => exact ⟨_, ((t239 != (wrap64 (t234 + 14)))), (by first | rfl | (simp; done) | (simp [*]; done)), H', ⟨by have := HJ2.out; first | omega | exact Nat.le_refl _⟩, ⟨by (with_reducible repeat (first | apply Kd.R_alloc | apply Kd.R_drewN | apply Kd.R_drew)); exact Kd.R_mono HO232.out (fun _ hk => ⟨hk.1.2, hk.2⟩)⟩, ⟨by (with_reducible repeat (first | apply Kd.R_alloc | apply Kd.R_drewN | apply Kd.R_drew)); exact Kd.R_mono HO237.out (fun _ hk => ⟨hk.1.2, hk.2⟩)⟩, ⟨by (with_reducible repeat (first | apply Kd.R_alloc | apply Kd.R_drewN | apply Kd.R_drew)); exact Kd.R_mono HO242.out (fun _ hk => ⟨hk.1.2, hk.2⟩)⟩, ⟨by repeat (first | (with_reducible first | exact HB.out | apply below_alloc | apply pw_below_drewN | apply below_drew1) | exact HB.out)⟩⟩
              · rw [if_neg c17] at H
                have c17b0 : ((t238.length : Int) == (t233.length : Int)) = false := beq_eq_false_iff_ne.mpr c17
                have c17b1 : ((t238.length : Int) != (t233.length : Int)) = true := bne_iff_ne.mpr c17
                have c17b2 : (t238.length == t233.length) = false := by first | simpa using c17 | (simp at c17 ⊢; omega)
                as_aux_lemma =>
                  have H' := Aside0.mk H
                  clear H
                  obtain ⟨Ao23, co23, eo23⟩ := Kd.R_slice HO242.out
                  subst eo23
                  obtain ⟨Ao24, co24, eo24⟩ := Kd.R_slice HO237.out
                  subst eo24
                  go_wp2
                  repeat (go_quiet (fail); try go_wp2)
                  go_meet
                  case rel => exact ⟨_, (true), (by first | rfl | (simp; done) | (simp [*]; done)), H', ⟨by have := HJ2.out; first | omega | exact Nat.le_refl _⟩, ⟨by (with_reducible repeat (first | apply Kd.R_alloc | apply Kd.R_drewN | apply Kd.R_drew)); exact Kd.R_mono HO232.out (fun _ hk => ⟨hk.1.2, hk.2⟩)⟩, ⟨by (with_reducible repeat (first | apply Kd.R_alloc | apply Kd.R_drewN | apply Kd.R_drew)); exact Kd.R_mono HO237.out (fun _ hk => ⟨hk.1.2, hk.2⟩)⟩, ⟨by (with_reducible repeat (first | apply Kd.R_alloc | apply Kd.R_drewN | apply Kd.R_drew)); exact Kd.R_mono HO242.out (fun _ hk => ⟨hk.1.2, hk.2⟩)⟩, ⟨by repeat (first | (with_reducible first | exact HB.out | apply below_alloc | apply pw_below_drewN | apply below_drew1) | exact HB.out)⟩⟩
            · rw [if_neg c16] at H
              have c16b0 : (t240 == t235) = false := beq_eq_false_iff_ne.mpr c16
              have c16b1 : (t240 != t235) = true := bne_iff_ne.mpr c16
              (first | rw [c16b0] | (simp only [i64_w, i32_w]; rw [c16b0]) | skip)
              as_aux_lemma =>
                have H' := Aside0.mk H
                clear H
                go_wp2
                repeat (go_quiet (fail); try go_wp2)
                go_meet
                case rel => exact ⟨_, (true), (by first | rfl | (simp; done) | (simp [*]; done)), H', ⟨by have := HJ2.out; first | omega | exact Nat.le_refl _⟩, ⟨by (with_reducible repeat (first | apply Kd.R_alloc | apply Kd.R_drewN | apply Kd.R_drew)); exact Kd.R_mono HO232.out (fun _ hk => ⟨hk.1.2, hk.2⟩)⟩, ⟨by (with_reducible repeat (first | apply Kd.R_alloc | apply Kd.R_drewN | apply Kd.R_drew)); exact Kd.R_mono HO237.out (fun _ hk => ⟨hk.1.2, hk.2⟩)⟩, ⟨by (with_reducible repeat (first | apply Kd.R_alloc | apply Kd.R_drewN | apply Kd.R_drew)); exact Kd.R_mono HO242.out (fun _ hk => ⟨hk.1.2, hk.2⟩)⟩, ⟨by repeat (first | (with_reducible first | exact HB.out | apply below_alloc | apply pw_below_drewN | apply below_drew1) | exact HB.out)⟩⟩
          case rest =>
            clear HC12
            try clear c1
            try clear p2
            try clear c4
            try clear c4b0
            try clear c4b1
            try clear c5
            try clear p6
            try clear c9
            try clear c10
            try clear c10b0
            try clear c10b1
            try clear c10b2
            try clear c16
            try clear c16b0
            try clear c16b1
            try clear c17
            try clear c17b0
            try clear c17b1
            try clear c17b2
            try clear c18
            try clear c18b0
            try clear c18b1
            try clear p2
            obtain ⟨kq, x72_11, rfl, HA, HJ11, HO_5, HO_8, HO_12, HB⟩ := hcut
            cases kq with
            | zero => exact absurd HA.out (by simp [resolventlaw06_LexBlanks.j1])
            | succ kj11 =>
              have H := HA.out
              clear HA
              simp only [resolventlaw06_LexBlanks.j1] at H
              by_cases c25 : x72_11 = true
              · subst c25
                have H1 : (some false) = some r := by rw [if_pos rfl] at H; exact H
                clear H
                have H := H1
                clear H1
                as_aux_lemma =>
                  exact Bool.noConfusion ((Option.some.inj H).trans hr)
              · replace c25 := Bool.eq_false_iff.mpr c25
                subst c25
                have H1 : (resolventlaw06_LexBlanks.l0 kj11 a0 a1 t228 t230 t233 t234 t235 (⟨#[32, 47, 42, 32, 120, 32, 42, 47, 32, 37, 32, 121, 10, 9]⟩ : ByteArray) t238 0) = some r := by rw [if_neg (show ¬ (false = true) by decide)] at H; exact H
                clear H
                have H := H1
                clear H1
                have H' := Aside0.mk H
                clear H
                go_wp2
                repeat (go_quiet (fail); try go_wp2)
                go_loopg [15] kj11 (fun kq v15 w' => ∃ (x15_3 : Int), v15 = .int .i64 x15_3 ∧ Aside0 (resolventlaw06_LexBlanks.l0 kq a0 a1 t228 t230 t233 t234 t235 (⟨#[32, 47, 42, 32, 120, 32, 42, 47, 32, 37, 32, 121, 10, 9]⟩ : ByteArray) t238 x15_3 = some r) ∧ Aside0 (kq ≤ kj11) ∧ Aside0 (Kd.R k49 49 w' w.heap.size (fun k_ => some k_ ≠ (v236 : Value).ownBlock ∧ some k_ ≠ (v241 : Value).ownBlock) v231 t228) ∧ Aside0 (Kd.R k49 49 w' w.heap.size (fun k_ => some k_ ≠ (v231 : Value).ownBlock ∧ some k_ ≠ (v241 : Value).ownBlock) v236 t233) ∧ Aside0 (Kd.R k49 49 w' w.heap.size (fun k_ => some k_ ≠ (v231 : Value).ownBlock ∧ some k_ ≠ (v236 : Value).ownBlock) v241 t238) ∧ Aside0 (Below w.heap.size w w'))
                case atStart => exact ⟨(0), (by first | rfl | (simp; done) | (simp [*]; done)), H', ⟨Nat.le_refl _⟩, ⟨by (with_reducible repeat (first | apply Kd.R_alloc | apply Kd.R_drewN | apply Kd.R_drew)); exact HO_5.out⟩, ⟨by (with_reducible repeat (first | apply Kd.R_alloc | apply Kd.R_drewN | apply Kd.R_drew)); exact HO_8.out⟩, ⟨by (with_reducible repeat (first | apply Kd.R_alloc | apply Kd.R_drewN | apply Kd.R_drew)); exact HO_12.out⟩, ⟨by repeat (first | (with_reducible first | exact HB.out | apply below_alloc | apply pw_below_drewN | apply below_drew1) | exact HB.out)⟩⟩
                case round =>
                  clear H'
                  try clear c1
                  try clear c2
                  try clear p2
                  try clear c4
                  try clear c4b0
                  try clear c4b1
                  try clear c5
                  try clear p6
                  try clear c9
                  try clear c10
                  try clear c10b0
                  try clear c10b1
                  try clear c10b2
                  try clear c16
                  try clear c16b0
                  try clear c16b1
                  try clear c17
                  try clear c17b0
                  try clear c17b1
                  try clear c17b2
                  try clear c18
                  try clear c18b0
                  try clear c18b1
                  try clear c25
                  try clear p2
                  try clear p6
                  obtain ⟨x15_3, rfl, HA, HK3, HO_5, HO_8, HO_12, HB⟩ := hrel
                  cases gk with
                  | zero => exact absurd HA.out (by simp [resolventlaw06_LexBlanks.l0])
                  | succ k3 =>
                    have H := HA.out
                    clear HA
                    simp only [resolventlaw06_LexBlanks.l0] at H
                    by_cases c26 : x15_3 < (t233.length : Int)
                    · rw [if_pos c26] at H
                      have c26b0 : decide (x15_3 < (t233.length : Int)) = true := decide_eq_true c26
                      clear c26
                      by_cases c27 : 0 ≤ x15_3
                      · rw [if_pos c27] at H
                        have c27b0 : decide (0 ≤ x15_3) = true := decide_eq_true c27
                        clear c27
                        by_cases c28 : x15_3 < (t238.length : Int)
                        · rw [if_pos c28] at H
                          have c28b0 : decide (x15_3 < (t238.length : Int)) = true := decide_eq_true c28
                          clear c28
                          by_cases c29 : (!(((rd_T49 t238 x15_3).f0) == ((rd_T49 t233 x15_3).f0)) || (!((((rd_T49 t238 x15_3).f1).toList) == (((rd_T49 t233 x15_3).f1).toList)) || (!(((rd_T49 t238 x15_3).f2) == ((rd_T49 t233 x15_3).f2)) || (!(((rd_T49 t238 x15_3).f3) == (wrap64 (((rd_T49 t233 x15_3).f3) + ((⟨#[32, 47, 42, 32, 120, 32, 42, 47, 32, 37, 32, 121, 10, 9]⟩ : ByteArray).size : Int)))) || (!(((rd_T49 t238 x15_3).f4) == ((rd_T49 t233 x15_3).f4))))))) = true
                          · rw [if_pos c29] at H
                            have c29b0 : (!(((rd_T49 t238 x15_3).f0) == ((rd_T49 t233 x15_3).f0)) || (!((((rd_T49 t238 x15_3).f1).toList) == (((rd_T49 t233 x15_3).f1).toList)) || (!(((rd_T49 t238 x15_3).f2) == ((rd_T49 t233 x15_3).f2)) || (!(((rd_T49 t238 x15_3).f3) == (wrap64 (((rd_T49 t233 x15_3).f3) + ((⟨#[32, 47, 42, 32, 120, 32, 42, 47, 32, 37, 32, 121, 10, 9]⟩ : ByteArray).size : Int)))) || (!(((rd_T49 t238 x15_3).f4) == ((rd_T49 t233 x15_3).f4))))))) = true := c29
                            clear c29
                            as_aux_lemma =>
                              exact Bool.noConfusion ((Option.some.inj H).trans hr)
                          · rw [if_neg c29] at H
                            have c29b0 : (!(((rd_T49 t238 x15_3).f0) == ((rd_T49 t233 x15_3).f0)) || (!((((rd_T49 t238 x15_3).f1).toList) == (((rd_T49 t233 x15_3).f1).toList)) || (!(((rd_T49 t238 x15_3).f2) == ((rd_T49 t233 x15_3).f2)) || (!(((rd_T49 t238 x15_3).f3) == (wrap64 (((rd_T49 t233 x15_3).f3) + ((⟨#[32, 47, 42, 32, 120, 32, 42, 47, 32, 37, 32, 121, 10, 9]⟩ : ByteArray).size : Int)))) || (!(((rd_T49 t238 x15_3).f4) == ((rd_T49 t233 x15_3).f4))))))) = false := by simpa using c29
                            clear c29
                            as_aux_lemma =>
                              have H' := Aside0.mk H
                              clear H
                              obtain ⟨AoX, coX, eoX⟩ := Kd.R_slice HO_8.out
                              subst eoX
                              obtain ⟨AoY, coY, eoY⟩ := Kd.R_slice HO_12.out
                              subst eoY
                              have pB : 0 ≤ (x15_3 : Int) := of_decide_eq_true (by first | (with_reducible assumption) | assumption)
                              have qB : x15_3 < (t233.length : Int) := of_decide_eq_true (by first | (with_reducible assumption) | assumption)
                              obtain ⟨adB, eB, hB0, hB1, hB2, hB3, hB4⟩ := at_T49 (Kd.R_reads' HO_8.out).2.2 x15_3 pB qB
                              cases eB
                              replace pB := eq_true pB
                              replace qB := eq_true qB
                              have pC : 0 ≤ (x15_3 : Int) := of_decide_eq_true (by first | (with_reducible assumption) | assumption)
                              have qC : x15_3 < (t238.length : Int) := of_decide_eq_true (by first | (with_reducible assumption) | assumption)
                              obtain ⟨adC, eC, hC0, hC1, hC2, hC3, hC4⟩ := at_T49 (Kd.R_reads' HO_12.out).2.2 x15_3 pC qC
                              cases eC
                              replace pC := eq_true pC
                              replace qC := eq_true qC
                              have kB0 := fun o_ : Obj => (World.cell?_alloc_some _ _ o_ (by rw [hB0]; rfl)).trans hB0
                              have kB1 := fun o_ : Obj => (World.cell?_alloc_some _ _ o_ (by rw [hB1]; rfl)).trans hB1
                              have kB2 := fun o_ : Obj => (World.cell?_alloc_some _ _ o_ (by rw [hB2]; rfl)).trans hB2
                              have kB3 := fun o_ : Obj => (World.cell?_alloc_some _ _ o_ (by rw [hB3]; rfl)).trans hB3
                              have kB4 := fun o_ : Obj => (World.cell?_alloc_some _ _ o_ (by rw [hB4]; rfl)).trans hB4
                              have kC0 := fun o_ : Obj => (World.cell?_alloc_some _ _ o_ (by rw [hC0]; rfl)).trans hC0
                              have kC1 := fun o_ : Obj => (World.cell?_alloc_some _ _ o_ (by rw [hC1]; rfl)).trans hC1
                              have kC2 := fun o_ : Obj => (World.cell?_alloc_some _ _ o_ (by rw [hC2]; rfl)).trans hC2
                              have kC3 := fun o_ : Obj => (World.cell?_alloc_some _ _ o_ (by rw [hC3]; rfl)).trans hC3
                              have kC4 := fun o_ : Obj => (World.cell?_alloc_some _ _ o_ (by rw [hC4]; rfl)).trans hC4
                              rw [show ((⟨#[32, 47, 42, 32, 120, 32, 42, 47, 32, 37, 32, 121, 10, 9]⟩ : ByteArray).size : Int) = 14 from rfl] at c29b0
                              go_wp2_with fail
                              go_quiet (fail)
                              go_wp2
                              go_roundg k3
                              case measure => have := HJ2.out; have := HJ11.out; have := HK3.out; omega
                              case rel => exact ⟨(wrap64 (x15_3 + 1)), (by first | rfl | (simp; done) | (simp [*]; done)), H', ⟨by have := HJ2.out; have := HJ11.out; have := HK3.out; omega⟩, ⟨by (with_reducible repeat (first | apply Kd.R_alloc | apply Kd.R_drewN | apply Kd.R_drew)); exact HO_5.out⟩, ⟨by (with_reducible repeat (first | apply Kd.R_alloc | apply Kd.R_drewN | apply Kd.R_drew)); exact HO_8.out⟩, ⟨by (with_reducible repeat (first | apply Kd.R_alloc | apply Kd.R_drewN | apply Kd.R_drew)); exact HO_12.out⟩, ⟨by repeat (first | (with_reducible first | exact HB.out | apply below_alloc | apply pw_below_drewN | apply below_drew1) | exact HB.out)⟩⟩
                        · rw [if_neg c28] at H
                          exact absurd H (by simp)
                      · rw [if_neg c27] at H
                        exact absurd H (by simp)
                    · rw [if_neg c26] at H
                      have c26b0 : decide (x15_3 < (t233.length : Int)) = false := decide_eq_false c26
                      clear c26
                      by_cases c34 : t230 = 0
                      · rw [if_pos c34] at H
                        have c34b0 : (t230 == 0) = true := beq_iff_eq.mpr c34
                        have c34b1 : (t230 != 0) = false := bne_eq_false_iff_eq.mpr c34
                        clear c34
                        by_cases c35 : a0.size + 1 ≤ 9223372036854775807
                        · rw [if_pos c35] at H
                          have c35b0 := eq_true c35
                          have c35b1 : decide (a0.size + 1 ≤ 9223372036854775807) = true := decide_eq_true c35
                          try have c35b2 : (9223372036854775807 < a0.size + 1) = False := eq_false (Nat.not_lt.2 c35)
                          by_cases c36 : (a0 ++ (⟨#[10]⟩ : ByteArray)).size + a1.size ≤ 9223372036854775807
                          · rw [if_pos c36] at H
                            have c36b0 := eq_true c36
                            have c36b1 : decide ((a0 ++ (⟨#[10]⟩ : ByteArray)).size + a1.size ≤ 9223372036854775807) = true := decide_eq_true c36
                            try have c36b2 : (9223372036854775807 < (a0 ++ (⟨#[10]⟩ : ByteArray)).size + a1.size) = False := eq_false (Nat.not_lt.2 c36)
                            replace H := Option.bind_eq_some_iff.mp H
                            obtain ⟨⟨t247, t248, t249⟩, A370, H⟩ := H
                            replace H : (if t249 = t235 then (if t235 = 0 then (resolventlaw06_LexBlanks.j3 k3 a0 t228 t233 t235 t247 false) else (resolventlaw06_LexBlanks.j3 k3 a0 t228 t233 t235 t247 (t248 != (wrap64 ((wrap64 ((a0.size : Int) + 1)) + t234))))) else (resolventlaw06_LexBlanks.j3 k3 a0 t228 t233 t235 t247 true)) = some r := H
                            have A37 := Aside0.mk A370
                            clear A370
                            have HC38 := Aside0.mk H
                            clear H
                            obtain ⟨Ao39, co39, eo39⟩ := Kd.R_slice HO_8.out
                            subst eo39
                            go_upto_region 19 with (first | (go_at_call 25; (with_reducible refine (lex_Lex.calls ((a0 ++ (⟨#[10]⟩ : ByteArray)) ++ a1) t247 t248 t249 _ (hL.below (by repeat (first | (with_reducible first | exact HB.out | exact Below.refl _ _ | apply below_alloc | apply pw_below_drewN | apply below_drew1) | exact HB.out))) A37.out).mono ?_); rintro e w40 ⟨v250, rfl, ho0, hb⟩; have n0_ := Aside0.mk (Kd.R_elder' (by (with_reducible repeat (first | apply Kd.R_alloc | apply Kd.R_drewN | apply Kd.R_drew)); exact HO_5.out) (Kd.R_base ho0) hb); have n1_ := Aside0.mk (Kd.R_elder' (by (with_reducible repeat (first | apply Kd.R_alloc | apply Kd.R_drewN | apply Kd.R_drew)); exact HO_8.out) (Kd.R_base ho0) hb); have n2_ := Aside0.mk (Kd.R_elder' (by (with_reducible repeat (first | apply Kd.R_alloc | apply Kd.R_drewN | apply Kd.R_drew)); exact HO_12.out) (Kd.R_base ho0) hb); have n3_ := Aside0.mk (Kd.R_lower (Kd.R_new' (Kd.R_new' (Kd.R_new' ho0 (Kd.R_lt (by (with_reducible repeat (first | apply Kd.R_alloc | apply Kd.R_drewN | apply Kd.R_drew)); exact HO_5.out))) (Kd.R_lt (by (with_reducible repeat (first | apply Kd.R_alloc | apply Kd.R_drewN | apply Kd.R_drew)); exact HO_8.out))) (Kd.R_lt (by (with_reducible repeat (first | apply Kd.R_alloc | apply Kd.R_drewN | apply Kd.R_drew)); exact HO_12.out))) (below_size (by repeat (first | (with_reducible first | exact HB.out | apply below_alloc | apply pw_below_drewN | apply below_drew1) | exact HB.out)))); have n4_ := Aside0.mk (below_step (by repeat (first | (with_reducible first | exact HB.out | apply below_alloc | apply pw_below_drewN | apply below_drew1) | exact HB.out)) hb); clear HO_5; clear HO_8; clear HO_12; clear HB; have HO_5 := n0_; have HO_8 := n1_; have HO_12 := n2_; have HO251 := n3_; have HB := n4_; clear n0_ n1_ n2_ n3_ n4_; (try clear hb); (try clear hb2); (try clear hk); (try clear hi); (try clear ho0)))
                            repeat (go_quiet (first | (go_at_call 25; (with_reducible refine (lex_Lex.calls ((a0 ++ (⟨#[10]⟩ : ByteArray)) ++ a1) t247 t248 t249 _ (hL.below (by repeat (first | (with_reducible first | exact HB.out | exact Below.refl _ _ | apply below_alloc | apply pw_below_drewN | apply below_drew1) | exact HB.out))) A37.out).mono ?_); rintro e w40 ⟨v250, rfl, ho0, hb⟩; have n0_ := Aside0.mk (Kd.R_elder' (by (with_reducible repeat (first | apply Kd.R_alloc | apply Kd.R_drewN | apply Kd.R_drew)); exact HO_5.out) (Kd.R_base ho0) hb); have n1_ := Aside0.mk (Kd.R_elder' (by (with_reducible repeat (first | apply Kd.R_alloc | apply Kd.R_drewN | apply Kd.R_drew)); exact HO_8.out) (Kd.R_base ho0) hb); have n2_ := Aside0.mk (Kd.R_elder' (by (with_reducible repeat (first | apply Kd.R_alloc | apply Kd.R_drewN | apply Kd.R_drew)); exact HO_12.out) (Kd.R_base ho0) hb); have n3_ := Aside0.mk (Kd.R_lower (Kd.R_new' (Kd.R_new' (Kd.R_new' ho0 (Kd.R_lt (by (with_reducible repeat (first | apply Kd.R_alloc | apply Kd.R_drewN | apply Kd.R_drew)); exact HO_5.out))) (Kd.R_lt (by (with_reducible repeat (first | apply Kd.R_alloc | apply Kd.R_drewN | apply Kd.R_drew)); exact HO_8.out))) (Kd.R_lt (by (with_reducible repeat (first | apply Kd.R_alloc | apply Kd.R_drewN | apply Kd.R_drew)); exact HO_12.out))) (below_size (by repeat (first | (with_reducible first | exact HB.out | apply below_alloc | apply pw_below_drewN | apply below_drew1) | exact HB.out)))); have n4_ := Aside0.mk (below_step (by repeat (first | (with_reducible first | exact HB.out | apply below_alloc | apply pw_below_drewN | apply below_drew1) | exact HB.out)) hb); clear HO_5; clear HO_8; clear HO_12; clear HB; have HO_5 := n0_; have HO_8 := n1_; have HO_12 := n2_; have HO251 := n3_; have HB := n4_; clear n0_ n1_ n2_ n3_ n4_; (try clear hb); (try clear hb2); (try clear hk); (try clear hi); (try clear ho0))); go_upto_region 19 with (first | (go_at_call 25; (with_reducible refine (lex_Lex.calls ((a0 ++ (⟨#[10]⟩ : ByteArray)) ++ a1) t247 t248 t249 _ (hL.below (by repeat (first | (with_reducible first | exact HB.out | exact Below.refl _ _ | apply below_alloc | apply pw_below_drewN | apply below_drew1) | exact HB.out))) A37.out).mono ?_); rintro e w40 ⟨v250, rfl, ho0, hb⟩; have n0_ := Aside0.mk (Kd.R_elder' (by (with_reducible repeat (first | apply Kd.R_alloc | apply Kd.R_drewN | apply Kd.R_drew)); exact HO_5.out) (Kd.R_base ho0) hb); have n1_ := Aside0.mk (Kd.R_elder' (by (with_reducible repeat (first | apply Kd.R_alloc | apply Kd.R_drewN | apply Kd.R_drew)); exact HO_8.out) (Kd.R_base ho0) hb); have n2_ := Aside0.mk (Kd.R_elder' (by (with_reducible repeat (first | apply Kd.R_alloc | apply Kd.R_drewN | apply Kd.R_drew)); exact HO_12.out) (Kd.R_base ho0) hb); have n3_ := Aside0.mk (Kd.R_lower (Kd.R_new' (Kd.R_new' (Kd.R_new' ho0 (Kd.R_lt (by (with_reducible repeat (first | apply Kd.R_alloc | apply Kd.R_drewN | apply Kd.R_drew)); exact HO_5.out))) (Kd.R_lt (by (with_reducible repeat (first | apply Kd.R_alloc | apply Kd.R_drewN | apply Kd.R_drew)); exact HO_8.out))) (Kd.R_lt (by (with_reducible repeat (first | apply Kd.R_alloc | apply Kd.R_drewN | apply Kd.R_drew)); exact HO_12.out))) (below_size (by repeat (first | (with_reducible first | exact HB.out | apply below_alloc | apply pw_below_drewN | apply below_drew1) | exact HB.out)))); have n4_ := Aside0.mk (below_step (by repeat (first | (with_reducible first | exact HB.out | apply below_alloc | apply pw_below_drewN | apply below_drew1) | exact HB.out)) hb); clear HO_5; clear HO_8; clear HO_12; clear HB; have HO_5 := n0_; have HO_8 := n1_; have HO_12 := n2_; have HO251 := n3_; have HB := n4_; clear n0_ n1_ n2_ n3_ n4_; (try clear hb); (try clear hb2); (try clear hk); (try clear hi); (try clear ho0))))
                            (try simp only [Act.put, List.setIfInBounds_toArray, List.set_cons_zero, List.set_cons_succ])
                            go_cut [122] (fun v122 wc => ∃ (kq : Nat) (x122_37 : Bool), v122 = .bool x122_37 ∧ Aside0 (resolventlaw06_LexBlanks.j3 kq a0 t228 t233 t235 t247 x122_37 = some r) ∧ Aside0 (kq ≤ k3) ∧ Aside0 (Kd.R k49 49 wc w.heap.size (fun k_ => some k_ ≠ ((.slice Ao39 t233.length co39) : Value).ownBlock ∧ some k_ ≠ (v250 : Value).ownBlock) v231 t228) ∧ Aside0 (Kd.R k49 49 wc w.heap.size (fun k_ => some k_ ≠ (v231 : Value).ownBlock ∧ some k_ ≠ (v250 : Value).ownBlock) (.slice Ao39 t233.length co39) t233) ∧ Aside0 (Kd.R k49 49 wc w.heap.size (fun k_ => some k_ ≠ (v231 : Value).ownBlock ∧ some k_ ≠ ((.slice Ao39 t233.length co39) : Value).ownBlock) v250 t247) ∧ Aside0 (Below w.heap.size w wc))
                            case first =>
                              have H := HC38.out
                              clear HC38
                              by_cases c41 : t249 = t235
                              · rw [if_pos c41] at H
                                have c41b0 : (t249 == t235) = true := beq_iff_eq.mpr c41
                                have c41b1 : (t249 != t235) = false := bne_eq_false_iff_eq.mpr c41
                                clear c41
                                (first | rw [c41b0] | (simp only [i64_w, i32_w]; rw [c41b0]) | skip)
                                by_cases c42 : t235 = 0
                                · rw [if_pos c42] at H
                                  have c42b0 : (t235 == 0) = true := beq_iff_eq.mpr c42
                                  have c42b1 : (t235 != 0) = false := bne_eq_false_iff_eq.mpr c42
                                  clear c42
                                  as_aux_lemma =>
                                    have H' := Aside0.mk H
                                    clear H
                                    go_wp2
                                    repeat (go_quiet (fail); try go_wp2)
                                    go_meet
                                    case rel => exact ⟨_, (false), (by first | rfl | (simp; done) | (simp [*]; done)), H', ⟨by have := HJ2.out; have := HJ11.out; have := HK3.out; first | omega | exact Nat.le_refl _⟩, ⟨by (with_reducible repeat (first | apply Kd.R_alloc | apply Kd.R_drewN | apply Kd.R_drew)); exact Kd.R_mono HO_5.out (fun _ hk => ⟨hk.1.1, hk.2⟩)⟩, ⟨by (with_reducible repeat (first | apply Kd.R_alloc | apply Kd.R_drewN | apply Kd.R_drew)); exact Kd.R_mono HO_8.out (fun _ hk => ⟨hk.1.1, hk.2⟩)⟩, ⟨by (with_reducible repeat (first | apply Kd.R_alloc | apply Kd.R_drewN | apply Kd.R_drew)); exact Kd.R_mono HO251.out (fun _ hk => ⟨hk.1.1.2, hk.1.2⟩)⟩, ⟨by repeat (first | (with_reducible first | exact HB.out | apply below_alloc | apply pw_below_drewN | apply below_drew1) | exact HB.out)⟩⟩
                                · rw [if_neg c42] at H
                                  have c42b0 : (t235 == 0) = false := beq_eq_false_iff_ne.mpr c42
                                  have c42b1 : (t235 != 0) = true := bne_iff_ne.mpr c42
                                  as_aux_lemma =>
                                    have H' := Aside0.mk H
                                    clear H
                                    go_wp2
                                    repeat (go_quiet (fail); try go_wp2)
                                    go_meet
                                    case rel => exact ⟨_, ((t248 != (wrap64 ((wrap64 ((a0.size : Int) + 1)) + t234)))), (by first | (rw [show wrap64 (wrap64 ((a0.size : Int) + 1) + t234) = wrap64 ((a0.size : Int) + 1 + t234) by unfold wrap64; omega]; done) | (rw [show wrap64 (wrap64 ((a0.size : Int) + 1) + t234) = wrap64 ((a0.size : Int) + 1 + t234) by unfold wrap64; omega]; rfl) | rfl | (simp; done) | (simp [*]; done)), H', ⟨by have := HJ2.out; have := HJ11.out; have := HK3.out; first | omega | exact Nat.le_refl _⟩, ⟨by (with_reducible repeat (first | apply Kd.R_alloc | apply Kd.R_drewN | apply Kd.R_drew)); exact Kd.R_mono HO_5.out (fun _ hk => ⟨hk.1.1, hk.2⟩)⟩, ⟨by (with_reducible repeat (first | apply Kd.R_alloc | apply Kd.R_drewN | apply Kd.R_drew)); exact Kd.R_mono HO_8.out (fun _ hk => ⟨hk.1.1, hk.2⟩)⟩, ⟨by (with_reducible repeat (first | apply Kd.R_alloc | apply Kd.R_drewN | apply Kd.R_drew)); exact Kd.R_mono HO251.out (fun _ hk => ⟨hk.1.1.2, hk.1.2⟩)⟩, ⟨by repeat (first | (with_reducible first | exact HB.out | apply below_alloc | apply pw_below_drewN | apply below_drew1) | exact HB.out)⟩⟩
                              · rw [if_neg c41] at H
                                have c41b0 : (t249 == t235) = false := beq_eq_false_iff_ne.mpr c41
                                have c41b1 : (t249 != t235) = true := bne_iff_ne.mpr c41
                                (first | rw [c41b0] | (simp only [i64_w, i32_w]; rw [c41b0]) | skip)
                                as_aux_lemma =>
                                  have H' := Aside0.mk H
                                  clear H
                                  go_wp2
                                  repeat (go_quiet (fail); try go_wp2)
                                  go_meet
                                  case rel => exact ⟨_, (true), (by first | rfl | (simp; done) | (simp [*]; done)), H', ⟨by have := HJ2.out; have := HJ11.out; have := HK3.out; first | omega | exact Nat.le_refl _⟩, ⟨by (with_reducible repeat (first | apply Kd.R_alloc | apply Kd.R_drewN | apply Kd.R_drew)); exact Kd.R_mono HO_5.out (fun _ hk => ⟨hk.1.1, hk.2⟩)⟩, ⟨by (with_reducible repeat (first | apply Kd.R_alloc | apply Kd.R_drewN | apply Kd.R_drew)); exact Kd.R_mono HO_8.out (fun _ hk => ⟨hk.1.1, hk.2⟩)⟩, ⟨by (with_reducible repeat (first | apply Kd.R_alloc | apply Kd.R_drewN | apply Kd.R_drew)); exact Kd.R_mono HO251.out (fun _ hk => ⟨hk.1.1.2, hk.1.2⟩)⟩, ⟨by repeat (first | (with_reducible first | exact HB.out | apply below_alloc | apply pw_below_drewN | apply below_drew1) | exact HB.out)⟩⟩
                            case rest =>
                              clear HC38
                              try clear c1
                              try clear c2
                              try clear p2
                              try clear q2
                              try clear hx2
                              try clear c3
                              try clear c4
                              try clear c4b0
                              try clear c4b1
                              try clear c5
                              try clear p6
                              try clear c9
                              try clear c10
                              try clear c10b0
                              try clear c10b1
                              try clear c10b2
                              try clear c16
                              try clear c16b0
                              try clear c16b1
                              try clear c17
                              try clear c17b0
                              try clear c17b1
                              try clear c17b2
                              try clear c18
                              try clear c18b0
                              try clear c18b1
                              try clear p24
                              try clear q24
                              try clear hx24
                              try clear c25
                              try clear c26
                              try clear c26b0
                              try clear c27
                              try clear c27b0
                              try clear c28
                              try clear c28b0
                              try clear c29
                              try clear c29b0
                              try clear c34
                              try clear c34b0
                              try clear c34b1
                              try clear c35
                              try clear c35b0
                              try clear c35b1
                              try clear c35b2
                              try clear c36
                              try clear c36b0
                              try clear c36b1
                              try clear c36b2
                              try clear c41
                              try clear c41b0
                              try clear c41b1
                              try clear c42
                              try clear c42b0
                              try clear c42b1
                              try clear hcz32_0
                              try clear hcz32_1
                              try clear hcz32_2
                              try clear hcz32_3
                              try clear hcz32_4
                              try clear hfz32_0
                              try clear hfz32_1
                              try clear hfz32_2
                              try clear hfz32_3
                              try clear hfz32_4
                              try clear hx243_0
                              try clear hx243_1
                              try clear hx243_2
                              try clear hx243_3
                              try clear hx243_4
                              try clear hx245_0
                              try clear hx245_1
                              try clear hx245_2
                              try clear hx245_3
                              try clear hx245_4
                              try clear p2
                              try clear p243
                              try clear p245
                              try clear p6
                              try clear q243
                              try clear q245
                              obtain ⟨kq, x122_37, rfl, HA, HJ37, HO_5, HO_8, HO_17, HB⟩ := hcut
                              cases kq with
                              | zero => exact absurd HA.out (by simp [resolventlaw06_LexBlanks.j3])
                              | succ kj37 =>
                                have H := HA.out
                                clear HA
                                simp only [resolventlaw06_LexBlanks.j3] at H
                                by_cases c43 : x122_37 = true
                                · subst c43
                                  have H1 : (some false) = some r := by rw [if_pos rfl] at H; exact H
                                  clear H
                                  have H := H1
                                  clear H1
                                  as_aux_lemma =>
                                    exact Bool.noConfusion ((Option.some.inj H).trans hr)
                                · replace c43 := Bool.eq_false_iff.mpr c43
                                  subst c43
                                  have H1 : (if t235 = 0 then (if (t228.length : Int) = 0 then (resolventlaw06_LexBlanks.j4 kj37 a0 t228 t233 t247 true) else (resolventlaw06_LexBlanks.j4 kj37 a0 t228 t233 t247 ((t247.length : Int) != (wrap64 ((wrap64 ((t228.length : Int) + (t233.length : Int))) - 1))))) else ((resolventlaw06_wakes.f).bind fun t252 => (some t252))) = some r := by rw [if_neg (show ¬ (false = true) by decide)] at H; exact H
                                  clear H
                                  have H := H1
                                  clear H1
                                  by_cases c44 : t235 = 0
                                  · rw [if_pos c44] at H
                                    have c44b0 : (t235 == 0) = true := beq_iff_eq.mpr c44
                                    have c44b1 : (t235 != 0) = false := bne_eq_false_iff_eq.mpr c44
                                    clear c44
                                    have HC45 := Aside0.mk H
                                    clear H
                                    go_upto_region 23 with (fail)
                                    repeat (go_quiet (fail); go_upto_region 23 with (fail))
                                    go_cut [139] (fun v139 wc => ∃ (kq : Nat) (x139_44 : Bool), v139 = .bool x139_44 ∧ Aside0 (resolventlaw06_LexBlanks.j4 kq a0 t228 t233 t247 x139_44 = some r) ∧ Aside0 (kq ≤ kj37) ∧ Aside0 (Kd.R k49 49 wc w.heap.size (fun k_ => some k_ ≠ ((.slice Ao39 t233.length co39) : Value).ownBlock ∧ some k_ ≠ (v250 : Value).ownBlock) v231 t228) ∧ Aside0 (Kd.R k49 49 wc w.heap.size (fun k_ => some k_ ≠ (v231 : Value).ownBlock ∧ some k_ ≠ (v250 : Value).ownBlock) (.slice Ao39 t233.length co39) t233) ∧ Aside0 (Kd.R k49 49 wc w.heap.size (fun k_ => some k_ ≠ (v231 : Value).ownBlock ∧ some k_ ≠ ((.slice Ao39 t233.length co39) : Value).ownBlock) v250 t247) ∧ Aside0 (Below w.heap.size w wc))
                                    case first =>
                                      have H := HC45.out
                                      clear HC45
                                      by_cases c46 : (t228.length : Int) = 0
                                      · rw [if_pos c46] at H
                                        have c46b0 : ((t228.length : Int) == 0) = true := beq_iff_eq.mpr c46
                                        have c46b1 : ((t228.length : Int) != 0) = false := bne_eq_false_iff_eq.mpr c46
                                        clear c46
                                        (first | rw [c46b0] | (simp only [i64_w, i32_w]; rw [c46b0]) | skip)
                                        as_aux_lemma =>
                                          have H' := Aside0.mk H
                                          clear H
                                          obtain ⟨Ao47, co47, eo47⟩ := Kd.R_slice HO_5.out
                                          subst eo47
                                          go_wp2
                                          repeat (go_quiet (fail); try go_wp2)
                                          go_meet
                                          case rel => exact ⟨_, (true), (by first | rfl | (simp; done) | (simp [*]; done)), H', ⟨by have := HJ2.out; have := HJ11.out; have := HK3.out; have := HJ37.out; first | omega | exact Nat.le_refl _⟩, ⟨by (with_reducible repeat (first | apply Kd.R_alloc | apply Kd.R_drewN | apply Kd.R_drew)); exact HO_5.out⟩, ⟨by (with_reducible repeat (first | apply Kd.R_alloc | apply Kd.R_drewN | apply Kd.R_drew)); exact HO_8.out⟩, ⟨by (with_reducible repeat (first | apply Kd.R_alloc | apply Kd.R_drewN | apply Kd.R_drew)); exact HO_17.out⟩, ⟨by repeat (first | (with_reducible first | exact HB.out | apply below_alloc | apply pw_below_drewN | apply below_drew1) | exact HB.out)⟩⟩
                                      · rw [if_neg c46] at H
                                        have c46b0 : ((t228.length : Int) == 0) = false := beq_eq_false_iff_ne.mpr c46
                                        have c46b1 : ((t228.length : Int) != 0) = true := bne_iff_ne.mpr c46
                                        have c46b2 : ¬ (t228 = []) := fun h_ => c46 (by rw [h_]; rfl)
                                        (first | rw [c46b0] | (simp only [i64_w, i32_w]; rw [c46b0]) | skip)
                                        as_aux_lemma =>
                                          have H' := Aside0.mk H
                                          clear H
                                          obtain ⟨Ao48, co48, eo48⟩ := Kd.R_slice HO_5.out
                                          subst eo48
                                          obtain ⟨Ao49, co49, eo49⟩ := Kd.R_slice HO_17.out
                                          subst eo49
                                          go_wp2
                                          repeat (go_quiet (fail); try go_wp2)
                                          go_meet
                                          case rel => exact ⟨_, (((t247.length : Int) != (wrap64 ((wrap64 ((t228.length : Int) + (t233.length : Int))) - 1)))), (by first | rfl | (simp; done) | (simp [*]; done)), H', ⟨by have := HJ2.out; have := HJ11.out; have := HK3.out; have := HJ37.out; first | omega | exact Nat.le_refl _⟩, ⟨by (with_reducible repeat (first | apply Kd.R_alloc | apply Kd.R_drewN | apply Kd.R_drew)); exact HO_5.out⟩, ⟨by (with_reducible repeat (first | apply Kd.R_alloc | apply Kd.R_drewN | apply Kd.R_drew)); exact HO_8.out⟩, ⟨by (with_reducible repeat (first | apply Kd.R_alloc | apply Kd.R_drewN | apply Kd.R_drew)); exact HO_17.out⟩, ⟨by repeat (first | (with_reducible first | exact HB.out | apply below_alloc | apply pw_below_drewN | apply below_drew1) | exact HB.out)⟩⟩
                                    case rest =>
                                      clear HC45
                                      try clear c1
                                      try clear c2
                                      try clear p2
                                      try clear q2
                                      try clear hx2
                                      try clear c3
                                      try clear c4
                                      try clear c4b0
                                      try clear c4b1
                                      try clear c5
                                      try clear p6
                                      try clear c9
                                      try clear c10
                                      try clear c10b0
                                      try clear c10b1
                                      try clear c10b2
                                      try clear c16
                                      try clear c16b0
                                      try clear c16b1
                                      try clear c17
                                      try clear c17b0
                                      try clear c17b1
                                      try clear c17b2
                                      try clear c18
                                      try clear c18b0
                                      try clear c18b1
                                      try clear p24
                                      try clear q24
                                      try clear hx24
                                      try clear c25
                                      try clear c26
                                      try clear c26b0
                                      try clear c27
                                      try clear c27b0
                                      try clear c28
                                      try clear c28b0
                                      try clear c29
                                      try clear c29b0
                                      try clear c34
                                      try clear c34b0
                                      try clear c34b1
                                      try clear c35
                                      try clear c35b0
                                      try clear c35b1
                                      try clear c35b2
                                      try clear c36
                                      try clear c36b0
                                      try clear c36b1
                                      try clear c36b2
                                      try clear c41
                                      try clear c41b0
                                      try clear c41b1
                                      try clear c42
                                      try clear c42b0
                                      try clear c42b1
                                      try clear c43
                                      try clear c44
                                      try clear c44b0
                                      try clear c44b1
                                      try clear c46
                                      try clear c46b0
                                      try clear c46b1
                                      try clear c46b2
                                      try clear hcz32_0
                                      try clear hcz32_1
                                      try clear hcz32_2
                                      try clear hcz32_3
                                      try clear hcz32_4
                                      try clear hfz32_0
                                      try clear hfz32_1
                                      try clear hfz32_2
                                      try clear hfz32_3
                                      try clear hfz32_4
                                      try clear hx243_0
                                      try clear hx243_1
                                      try clear hx243_2
                                      try clear hx243_3
                                      try clear hx243_4
                                      try clear hx245_0
                                      try clear hx245_1
                                      try clear hx245_2
                                      try clear hx245_3
                                      try clear hx245_4
                                      try clear p2
                                      try clear p24
                                      try clear p243
                                      try clear p245
                                      try clear p6
                                      try clear q2
                                      try clear q24
                                      try clear q243
                                      try clear q245
                                      obtain ⟨kq, x139_44, rfl, HA, HJ44, HO_5, HO_8, HO_17, HB⟩ := hcut
                                      cases kq with
                                      | zero => exact absurd HA.out (by simp [resolventlaw06_LexBlanks.j4])
                                      | succ kj44 =>
                                        have H := HA.out
                                        clear HA
                                        simp only [resolventlaw06_LexBlanks.j4] at H
                                        by_cases c50 : x139_44 = true
                                        · subst c50
                                          have H1 : (some false) = some r := by rw [if_pos rfl] at H; exact H
                                          clear H
                                          have H := H1
                                          clear H1
                                          as_aux_lemma =>
                                            exact Bool.noConfusion ((Option.some.inj H).trans hr)
                                        · replace c50 := Bool.eq_false_iff.mpr c50
                                          subst c50
                                          have H1 : (resolventlaw06_LexBlanks.l1 kj44 a0 t228 t233 t247 0) = some r := by rw [if_neg (show ¬ (false = true) by decide)] at H; exact H
                                          clear H
                                          have H := H1
                                          clear H1
                                          have H' := Aside0.mk H
                                          clear H
                                          go_wp2
                                          repeat (go_quiet (fail); try go_wp2)
                                          go_loopg [20] kj44 (fun kq v20 w' => ∃ (x20_6 : Int), v20 = .int .i64 x20_6 ∧ Aside0 (resolventlaw06_LexBlanks.l1 kq a0 t228 t233 t247 x20_6 = some r) ∧ Aside0 (kq ≤ kj44) ∧ Aside0 (Kd.R k49 49 w' w.heap.size (fun k_ => some k_ ≠ ((.slice Ao39 t233.length co39) : Value).ownBlock ∧ some k_ ≠ (v250 : Value).ownBlock) v231 t228) ∧ Aside0 (Kd.R k49 49 w' w.heap.size (fun k_ => some k_ ≠ (v231 : Value).ownBlock ∧ some k_ ≠ (v250 : Value).ownBlock) (.slice Ao39 t233.length co39) t233) ∧ Aside0 (Kd.R k49 49 w' w.heap.size (fun k_ => some k_ ≠ (v231 : Value).ownBlock ∧ some k_ ≠ ((.slice Ao39 t233.length co39) : Value).ownBlock) v250 t247) ∧ Aside0 (Below w.heap.size w w'))
                                          case atStart => exact ⟨(0), (by first | rfl | (simp; done) | (simp [*]; done)), H', ⟨Nat.le_refl _⟩, ⟨by (with_reducible repeat (first | apply Kd.R_alloc | apply Kd.R_drewN | apply Kd.R_drew)); exact HO_5.out⟩, ⟨by (with_reducible repeat (first | apply Kd.R_alloc | apply Kd.R_drewN | apply Kd.R_drew)); exact HO_8.out⟩, ⟨by (with_reducible repeat (first | apply Kd.R_alloc | apply Kd.R_drewN | apply Kd.R_drew)); exact HO_17.out⟩, ⟨by repeat (first | (with_reducible first | exact HB.out | apply below_alloc | apply pw_below_drewN | apply below_drew1) | exact HB.out)⟩⟩
                                          case round =>
                                            clear H'
                                            try clear c1
                                            try clear c2
                                            try clear p2
                                            try clear q2
                                            try clear hx2
                                            try clear c3
                                            try clear c4
                                            try clear c4b0
                                            try clear c4b1
                                            try clear c5
                                            try clear p6
                                            try clear c9
                                            try clear c10
                                            try clear c10b0
                                            try clear c10b1
                                            try clear c10b2
                                            try clear c16
                                            try clear c16b0
                                            try clear c16b1
                                            try clear c17
                                            try clear c17b0
                                            try clear c17b1
                                            try clear c17b2
                                            try clear c18
                                            try clear c18b0
                                            try clear c18b1
                                            try clear p24
                                            try clear q24
                                            try clear hx24
                                            try clear c25
                                            try clear c26
                                            try clear c26b0
                                            try clear c27
                                            try clear c27b0
                                            try clear c28
                                            try clear c28b0
                                            try clear c29
                                            try clear c29b0
                                            try clear c34
                                            try clear c34b0
                                            try clear c34b1
                                            try clear c35
                                            try clear c35b0
                                            try clear c35b1
                                            try clear c35b2
                                            try clear c36
                                            try clear c36b0
                                            try clear c36b1
                                            try clear c36b2
                                            try clear c41
                                            try clear c41b0
                                            try clear c41b1
                                            try clear c42
                                            try clear c42b0
                                            try clear c42b1
                                            try clear c43
                                            try clear c44
                                            try clear c44b0
                                            try clear c44b1
                                            try clear c46
                                            try clear c46b0
                                            try clear c46b1
                                            try clear c46b2
                                            try clear c50
                                            try clear hcz32_0
                                            try clear hcz32_1
                                            try clear hcz32_2
                                            try clear hcz32_3
                                            try clear hcz32_4
                                            try clear hfz32_0
                                            try clear hfz32_1
                                            try clear hfz32_2
                                            try clear hfz32_3
                                            try clear hfz32_4
                                            try clear hx243_0
                                            try clear hx243_1
                                            try clear hx243_2
                                            try clear hx243_3
                                            try clear hx243_4
                                            try clear hx245_0
                                            try clear hx245_1
                                            try clear hx245_2
                                            try clear hx245_3
                                            try clear hx245_4
                                            try clear p2
                                            try clear p24
                                            try clear p243
                                            try clear p245
                                            try clear p6
                                            try clear q2
                                            try clear q24
                                            try clear q243
                                            try clear q245
                                            obtain ⟨x20_6, rfl, HA, HK6, HO_5, HO_8, HO_17, HB⟩ := hrel
                                            cases gk with
                                            | zero => exact absurd HA.out (by simp [resolventlaw06_LexBlanks.l1])
                                            | succ k6 =>
                                              have H := HA.out
                                              clear HA
                                              simp only [resolventlaw06_LexBlanks.l1] at H
                                              by_cases c51 : x20_6 < (t247.length : Int)
                                              · rw [if_pos c51] at H
                                                have c51b0 : decide (x20_6 < (t247.length : Int)) = true := decide_eq_true c51
                                                clear c51
                                                by_cases c52 : x20_6 < (wrap64 ((t228.length : Int) - 1))
                                                · rw [if_pos c52] at H
                                                  have c52b0 : decide (x20_6 < (wrap64 ((t228.length : Int) - 1))) = true := decide_eq_true c52
                                                  clear c52
                                                  by_cases c53 : 0 ≤ x20_6
                                                  · rw [if_pos c53] at H
                                                    have c53b0 : decide (0 ≤ x20_6) = true := decide_eq_true c53
                                                    clear c53
                                                    by_cases c54 : x20_6 < (t228.length : Int)
                                                    · rw [if_pos c54] at H
                                                      have c54b0 : decide (x20_6 < (t228.length : Int)) = true := decide_eq_true c54
                                                      clear c54
                                                      by_cases c55 : (!(((rd_T49 t247 x20_6).f0) == ((rd_T49 t228 x20_6).f0)) || (!((((rd_T49 t247 x20_6).f1).toList) == (((rd_T49 t228 x20_6).f1).toList)) || (!(((rd_T49 t247 x20_6).f2) == ((rd_T49 t228 x20_6).f2)) || (!(((rd_T49 t247 x20_6).f3) == ((rd_T49 t228 x20_6).f3)) || (!(((rd_T49 t247 x20_6).f4) == ((rd_T49 t228 x20_6).f4))))))) = true
                                                      · rw [if_pos c55] at H
                                                        have c55b0 : (!(((rd_T49 t247 x20_6).f0) == ((rd_T49 t228 x20_6).f0)) || (!((((rd_T49 t247 x20_6).f1).toList) == (((rd_T49 t228 x20_6).f1).toList)) || (!(((rd_T49 t247 x20_6).f2) == ((rd_T49 t228 x20_6).f2)) || (!(((rd_T49 t247 x20_6).f3) == ((rd_T49 t228 x20_6).f3)) || (!(((rd_T49 t247 x20_6).f4) == ((rd_T49 t228 x20_6).f4))))))) = true := c55
                                                        clear c55
                                                        as_aux_lemma =>
                                                          exact Bool.noConfusion ((Option.some.inj H).trans hr)
                                                      · rw [if_neg c55] at H
                                                        have c55b0 : (!(((rd_T49 t247 x20_6).f0) == ((rd_T49 t228 x20_6).f0)) || (!((((rd_T49 t247 x20_6).f1).toList) == (((rd_T49 t228 x20_6).f1).toList)) || (!(((rd_T49 t247 x20_6).f2) == ((rd_T49 t228 x20_6).f2)) || (!(((rd_T49 t247 x20_6).f3) == ((rd_T49 t228 x20_6).f3)) || (!(((rd_T49 t247 x20_6).f4) == ((rd_T49 t228 x20_6).f4))))))) = false := by simpa using c55
                                                        clear c55
                                                        as_aux_lemma =>
                                                          have H' := Aside0.mk H
                                                          clear H
                                                          obtain ⟨AoX, coX, eoX⟩ := Kd.R_slice HO_5.out
                                                          subst eoX
                                                          obtain ⟨AoY, coY, eoY⟩ := Kd.R_slice HO_17.out
                                                          subst eoY
                                                          have pB : 0 ≤ (x20_6 : Int) := of_decide_eq_true (by first | (with_reducible assumption) | assumption)
                                                          have qB : x20_6 < (t228.length : Int) := of_decide_eq_true (by first | (with_reducible assumption) | assumption)
                                                          obtain ⟨adB, eB, hB0, hB1, hB2, hB3, hB4⟩ := at_T49 (Kd.R_reads' HO_5.out).2.2 x20_6 pB qB
                                                          cases eB
                                                          replace pB := eq_true pB
                                                          replace qB := eq_true qB
                                                          have pC : 0 ≤ (x20_6 : Int) := of_decide_eq_true (by first | (with_reducible assumption) | assumption)
                                                          have qC : x20_6 < (t247.length : Int) := of_decide_eq_true (by first | (with_reducible assumption) | assumption)
                                                          obtain ⟨adC, eC, hC0, hC1, hC2, hC3, hC4⟩ := at_T49 (Kd.R_reads' HO_17.out).2.2 x20_6 pC qC
                                                          cases eC
                                                          replace pC := eq_true pC
                                                          replace qC := eq_true qC
                                                          have kB0 := fun o_ : Obj => (World.cell?_alloc_some _ _ o_ (by rw [hB0]; rfl)).trans hB0
                                                          have kB1 := fun o_ : Obj => (World.cell?_alloc_some _ _ o_ (by rw [hB1]; rfl)).trans hB1
                                                          have kB2 := fun o_ : Obj => (World.cell?_alloc_some _ _ o_ (by rw [hB2]; rfl)).trans hB2
                                                          have kB3 := fun o_ : Obj => (World.cell?_alloc_some _ _ o_ (by rw [hB3]; rfl)).trans hB3
                                                          have kB4 := fun o_ : Obj => (World.cell?_alloc_some _ _ o_ (by rw [hB4]; rfl)).trans hB4
                                                          have kC0 := fun o_ : Obj => (World.cell?_alloc_some _ _ o_ (by rw [hC0]; rfl)).trans hC0
                                                          have kC1 := fun o_ : Obj => (World.cell?_alloc_some _ _ o_ (by rw [hC1]; rfl)).trans hC1
                                                          have kC2 := fun o_ : Obj => (World.cell?_alloc_some _ _ o_ (by rw [hC2]; rfl)).trans hC2
                                                          have kC3 := fun o_ : Obj => (World.cell?_alloc_some _ _ o_ (by rw [hC3]; rfl)).trans hC3
                                                          have kC4 := fun o_ : Obj => (World.cell?_alloc_some _ _ o_ (by rw [hC4]; rfl)).trans hC4
                                                          go_wp2_with fail
                                                          go_quiet (fail)
                                                          go_wp2
                                                          go_roundg k6
                                                          case measure => have := HJ2.out; have := HJ11.out; have := HK3.out; have := HJ37.out; have := HJ44.out; have := HK6.out; omega
                                                          case rel => exact ⟨(wrap64 (x20_6 + 1)), (by first | rfl | (simp; done) | (simp [*]; done)), H', ⟨by have := HJ2.out; have := HJ11.out; have := HK3.out; have := HJ37.out; have := HJ44.out; have := HK6.out; omega⟩, ⟨by (with_reducible repeat (first | apply Kd.R_alloc | apply Kd.R_drewN | apply Kd.R_drew)); exact HO_5.out⟩, ⟨by (with_reducible repeat (first | apply Kd.R_alloc | apply Kd.R_drewN | apply Kd.R_drew)); exact HO_8.out⟩, ⟨by (with_reducible repeat (first | apply Kd.R_alloc | apply Kd.R_drewN | apply Kd.R_drew)); exact HO_17.out⟩, ⟨by repeat (first | (with_reducible first | exact HB.out | apply below_alloc | apply pw_below_drewN | apply below_drew1) | exact HB.out)⟩⟩
                                                    · rw [if_neg c54] at H
                                                      exact absurd H (by simp)
                                                  · rw [if_neg c53] at H
                                                    exact absurd H (by simp)
                                                · rw [if_neg c52] at H
                                                  have c52b0 : decide (x20_6 < (wrap64 ((t228.length : Int) - 1))) = false := decide_eq_false c52
                                                  clear c52
                                                  obtain ⟨ji60, hji60⟩ : ∃ j_ : Int, (wrap64 ((wrap64 (x20_6 - (t228.length : Int))) + 1)) = j_ := ⟨_, rfl⟩
                                                  replace H : (if 0 ≤ (ji60) then (if (ji60) < (t233.length : Int) then (if 0 ≤ x20_6 then (if (!(((rd_T49 t247 x20_6).f0) == ((rd_T49 t233 (ji60)).f0)) || (!((((rd_T49 t247 x20_6).f1).toList) == (((rd_T49 t233 (ji60)).f1).toList)) || (!(((rd_T49 t247 x20_6).f2) == ((rd_T49 t233 (ji60)).f2)) || (!(((rd_T49 t247 x20_6).f3) == (wrap64 ((wrap64 (((rd_T49 t233 (ji60)).f3) + (a0.size : Int))) + 1))) || (!(((rd_T49 t247 x20_6).f4) == ((rd_T49 t233 (ji60)).f4))))))) = true then (some false) else (resolventlaw06_LexBlanks.l1 k6 a0 t228 t233 t247 (wrap64 (x20_6 + 1)))) else (none)) else (none)) else (none)) = some r := by first | (rw [hji60] at H; exact H) | (simp only [hji60] at H ⊢; exact H)
                                                  have hji60w : (IntKind.i64.wrap ((wrap64 (x20_6 - (t228.length : Int))) + 1)) = ji60 := (i64_w _).trans hji60
                                                  by_cases c61 : 0 ≤ (ji60)
                                                  · rw [if_pos c61] at H
                                                    have c61b0 : decide (0 ≤ (ji60)) = true := decide_eq_true c61
                                                    clear c61
                                                    by_cases c62 : (ji60) < (t233.length : Int)
                                                    · rw [if_pos c62] at H
                                                      have c62b0 : decide ((ji60) < (t233.length : Int)) = true := decide_eq_true c62
                                                      clear c62
                                                      by_cases c63 : 0 ≤ x20_6
                                                      · rw [if_pos c63] at H
                                                        have c63b0 : decide (0 ≤ x20_6) = true := decide_eq_true c63
                                                        clear c63
                                                        by_cases c64 : (!(((rd_T49 t247 x20_6).f0) == ((rd_T49 t233 (ji60)).f0)) || (!((((rd_T49 t247 x20_6).f1).toList) == (((rd_T49 t233 (ji60)).f1).toList)) || (!(((rd_T49 t247 x20_6).f2) == ((rd_T49 t233 (ji60)).f2)) || (!(((rd_T49 t247 x20_6).f3) == (wrap64 ((wrap64 (((rd_T49 t233 (ji60)).f3) + (a0.size : Int))) + 1))) || (!(((rd_T49 t247 x20_6).f4) == ((rd_T49 t233 (ji60)).f4))))))) = true
                                                        · rw [if_pos c64] at H
                                                          have c64b0 : (!(((rd_T49 t247 x20_6).f0) == ((rd_T49 t233 (ji60)).f0)) || (!((((rd_T49 t247 x20_6).f1).toList) == (((rd_T49 t233 (ji60)).f1).toList)) || (!(((rd_T49 t247 x20_6).f2) == ((rd_T49 t233 (ji60)).f2)) || (!(((rd_T49 t247 x20_6).f3) == (wrap64 ((wrap64 (((rd_T49 t233 (ji60)).f3) + (a0.size : Int))) + 1))) || (!(((rd_T49 t247 x20_6).f4) == ((rd_T49 t233 (ji60)).f4))))))) = true := c64
                                                          clear c64
                                                          as_aux_lemma =>
                                                            exact Bool.noConfusion ((Option.some.inj H).trans hr)
                                                        · rw [if_neg c64] at H
                                                          have c64b0 : (!(((rd_T49 t247 x20_6).f0) == ((rd_T49 t233 (ji60)).f0)) || (!((((rd_T49 t247 x20_6).f1).toList) == (((rd_T49 t233 (ji60)).f1).toList)) || (!(((rd_T49 t247 x20_6).f2) == ((rd_T49 t233 (ji60)).f2)) || (!(((rd_T49 t247 x20_6).f3) == (wrap64 ((wrap64 (((rd_T49 t233 (ji60)).f3) + (a0.size : Int))) + 1))) || (!(((rd_T49 t247 x20_6).f4) == ((rd_T49 t233 (ji60)).f4))))))) = false := by simpa using c64
                                                          clear c64
                                                          as_aux_lemma =>
                                                            have H' := Aside0.mk H
                                                            clear H
                                                            obtain ⟨AoX, coX, eoX⟩ := Kd.R_slice HO_5.out
                                                            subst eoX
                                                            obtain ⟨AoY, coY, eoY⟩ := Kd.R_slice HO_17.out
                                                            subst eoY
                                                            have pB : 0 ≤ (ji60 : Int) := of_decide_eq_true (by first | (with_reducible assumption) | assumption)
                                                            have qB : ji60 < (t233.length : Int) := of_decide_eq_true (by first | (with_reducible assumption) | assumption)
                                                            obtain ⟨adB, eB, hB0, hB1, hB2, hB3, hB4⟩ := at_T49 (Kd.R_reads' HO_8.out).2.2 ji60 pB qB
                                                            cases eB
                                                            replace pB := eq_true pB
                                                            replace qB := eq_true qB
                                                            have pC : 0 ≤ (x20_6 : Int) := of_decide_eq_true (by first | (with_reducible assumption) | assumption)
                                                            have qC : x20_6 < (t247.length : Int) := of_decide_eq_true (by first | (with_reducible assumption) | assumption)
                                                            obtain ⟨adC, eC, hC0, hC1, hC2, hC3, hC4⟩ := at_T49 (Kd.R_reads' HO_17.out).2.2 x20_6 pC qC
                                                            cases eC
                                                            replace pC := eq_true pC
                                                            replace qC := eq_true qC
                                                            have kB0 := fun o_ : Obj => (World.cell?_alloc_some _ _ o_ (by rw [hB0]; rfl)).trans hB0
                                                            have kB1 := fun o_ : Obj => (World.cell?_alloc_some _ _ o_ (by rw [hB1]; rfl)).trans hB1
                                                            have kB2 := fun o_ : Obj => (World.cell?_alloc_some _ _ o_ (by rw [hB2]; rfl)).trans hB2
                                                            have kB3 := fun o_ : Obj => (World.cell?_alloc_some _ _ o_ (by rw [hB3]; rfl)).trans hB3
                                                            have kB4 := fun o_ : Obj => (World.cell?_alloc_some _ _ o_ (by rw [hB4]; rfl)).trans hB4
                                                            have kC0 := fun o_ : Obj => (World.cell?_alloc_some _ _ o_ (by rw [hC0]; rfl)).trans hC0
                                                            have kC1 := fun o_ : Obj => (World.cell?_alloc_some _ _ o_ (by rw [hC1]; rfl)).trans hC1
                                                            have kC2 := fun o_ : Obj => (World.cell?_alloc_some _ _ o_ (by rw [hC2]; rfl)).trans hC2
                                                            have kC3 := fun o_ : Obj => (World.cell?_alloc_some _ _ o_ (by rw [hC3]; rfl)).trans hC3
                                                            have kC4 := fun o_ : Obj => (World.cell?_alloc_some _ _ o_ (by rw [hC4]; rfl)).trans hC4
                                                            go_wp2_with fail
                                                            go_quiet (fail)
                                                            go_wp2
                                                            go_roundg k6
                                                            case measure => have := HJ2.out; have := HJ11.out; have := HK3.out; have := HJ37.out; have := HJ44.out; have := HK6.out; omega
                                                            case rel => exact ⟨(wrap64 (x20_6 + 1)), (by first | rfl | (simp; done) | (simp [*]; done)), H', ⟨by have := HJ2.out; have := HJ11.out; have := HK3.out; have := HJ37.out; have := HJ44.out; have := HK6.out; omega⟩, ⟨by (with_reducible repeat (first | apply Kd.R_alloc | apply Kd.R_drewN | apply Kd.R_drew)); exact HO_5.out⟩, ⟨by (with_reducible repeat (first | apply Kd.R_alloc | apply Kd.R_drewN | apply Kd.R_drew)); exact HO_8.out⟩, ⟨by (with_reducible repeat (first | apply Kd.R_alloc | apply Kd.R_drewN | apply Kd.R_drew)); exact HO_17.out⟩, ⟨by repeat (first | (with_reducible first | exact HB.out | apply below_alloc | apply pw_below_drewN | apply below_drew1) | exact HB.out)⟩⟩
                                                      · rw [if_neg c63] at H
                                                        exact absurd H (by simp)
                                                    · rw [if_neg c62] at H
                                                      exact absurd H (by simp)
                                                  · rw [if_neg c61] at H
                                                    exact absurd H (by simp)
                                              · rw [if_neg c51] at H
                                                have c51b0 : decide (x20_6 < (t247.length : Int)) = false := decide_eq_false c51
                                                clear c51
                                                replace H := Option.bind_eq_some_iff.mp H
                                                obtain ⟨t253, A690, H⟩ := H
                                                replace H : (some t253) = some r := H
                                                have A69 := Aside0.mk A690
                                                clear A690
                                                as_aux_lemma =>
                                                  obtain rfl := Option.some.inj H
                                                  obtain ⟨Ao70, co70, eo70⟩ := Kd.R_slice HO_17.out
                                                  subst eo70
                                                  go_wp2_with (first | (go_at_call 24; (with_reducible refine (resolventlaw06_wakes.calls  t253 _ (hL.below (by repeat (first | (with_reducible first | exact HB.out | exact Below.refl _ _ | apply below_alloc | apply pw_below_drewN | apply below_drew1) | exact HB.out))) A69.out).mono ?_); rintro e w71 ⟨rfl, hb⟩; have n0_ := Aside0.mk (Kd.R_below (by (with_reducible repeat (first | apply Kd.R_alloc | apply Kd.R_drewN | apply Kd.R_drew)); exact HO_5.out) hb); have n1_ := Aside0.mk (Kd.R_below (by (with_reducible repeat (first | apply Kd.R_alloc | apply Kd.R_drewN | apply Kd.R_drew)); exact HO_8.out) hb); have n2_ := Aside0.mk (Kd.R_below (by (with_reducible repeat (first | apply Kd.R_alloc | apply Kd.R_drewN | apply Kd.R_drew)); exact HO_17.out) hb); have n3_ := Aside0.mk (below_step (by repeat (first | (with_reducible first | exact HB.out | apply below_alloc | apply pw_below_drewN | apply below_drew1) | exact HB.out)) hb); clear HO_5; clear HO_8; clear HO_17; clear HB; have HO_5 := n0_; have HO_8 := n1_; have HO_17 := n2_; have HB := n3_; clear n0_ n1_ n2_ n3_; (try clear hb); (try clear hb2); (try clear hk); (try clear hi)))
                                                  repeat (go_quiet (first | (go_at_call 24; (with_reducible refine (resolventlaw06_wakes.calls  t253 _ (hL.below (by repeat (first | (with_reducible first | exact HB.out | exact Below.refl _ _ | apply below_alloc | apply pw_below_drewN | apply below_drew1) | exact HB.out))) A69.out).mono ?_); rintro e w71 ⟨rfl, hb⟩; have n0_ := Aside0.mk (Kd.R_below (by (with_reducible repeat (first | apply Kd.R_alloc | apply Kd.R_drewN | apply Kd.R_drew)); exact HO_5.out) hb); have n1_ := Aside0.mk (Kd.R_below (by (with_reducible repeat (first | apply Kd.R_alloc | apply Kd.R_drewN | apply Kd.R_drew)); exact HO_8.out) hb); have n2_ := Aside0.mk (Kd.R_below (by (with_reducible repeat (first | apply Kd.R_alloc | apply Kd.R_drewN | apply Kd.R_drew)); exact HO_17.out) hb); have n3_ := Aside0.mk (below_step (by repeat (first | (with_reducible first | exact HB.out | apply below_alloc | apply pw_below_drewN | apply below_drew1) | exact HB.out)) hb); clear HO_5; clear HO_8; clear HO_17; clear HB; have HO_5 := n0_; have HO_8 := n1_; have HO_17 := n2_; have HB := n3_; clear n0_ n1_ n2_ n3_; (try clear hb); (try clear hb2); (try clear hk); (try clear hi))); try go_wp2_with (first | (go_at_call 24; (with_reducible refine (resolventlaw06_wakes.calls  t253 _ (hL.below (by repeat (first | (with_reducible first | exact HB.out | exact Below.refl _ _ | apply below_alloc | apply pw_below_drewN | apply below_drew1) | exact HB.out))) A69.out).mono ?_); rintro e w71 ⟨rfl, hb⟩; have n0_ := Aside0.mk (Kd.R_below (by (with_reducible repeat (first | apply Kd.R_alloc | apply Kd.R_drewN | apply Kd.R_drew)); exact HO_5.out) hb); have n1_ := Aside0.mk (Kd.R_below (by (with_reducible repeat (first | apply Kd.R_alloc | apply Kd.R_drewN | apply Kd.R_drew)); exact HO_8.out) hb); have n2_ := Aside0.mk (Kd.R_below (by (with_reducible repeat (first | apply Kd.R_alloc | apply Kd.R_drewN | apply Kd.R_drew)); exact HO_17.out) hb); have n3_ := Aside0.mk (below_step (by repeat (first | (with_reducible first | exact HB.out | apply below_alloc | apply pw_below_drewN | apply below_drew1) | exact HB.out)) hb); clear HO_5; clear HO_8; clear HO_17; clear HB; have HO_5 := n0_; have HO_8 := n1_; have HO_17 := n2_; have HB := n3_; clear n0_ n1_ n2_ n3_; (try clear hb); (try clear hb2); (try clear hk); (try clear hi))))
                                                  go_ret
                                                  exact ⟨by first | rfl | (simp [errW_none, errW_some] <;> rfl) | (simp [*, errW_none, errW_some] <;> rfl), by repeat (first | (with_reducible first | exact HB.out | apply below_alloc | apply pw_below_drewN | apply below_drew1) | exact HB.out)⟩
                                  · rw [if_neg c44] at H
                                    have c44b0 : (t235 == 0) = false := beq_eq_false_iff_ne.mpr c44
                                    have c44b1 : (t235 != 0) = true := bne_iff_ne.mpr c44
                                    replace H := Option.bind_eq_some_iff.mp H
                                    obtain ⟨t252, A720, H⟩ := H
                                    replace H : (some t252) = some r := H
                                    have A72 := Aside0.mk A720
                                    clear A720
                                    as_aux_lemma =>
                                      obtain rfl := Option.some.inj H
                                      go_wp2_with (first | (go_at_call 24; (with_reducible refine (resolventlaw06_wakes.calls  t252 _ (hL.below (by repeat (first | (with_reducible first | exact HB.out | exact Below.refl _ _ | apply below_alloc | apply pw_below_drewN | apply below_drew1) | exact HB.out))) A72.out).mono ?_); rintro e w73 ⟨rfl, hb⟩; have n0_ := Aside0.mk (Kd.R_below (by (with_reducible repeat (first | apply Kd.R_alloc | apply Kd.R_drewN | apply Kd.R_drew)); exact HO_5.out) hb); have n1_ := Aside0.mk (Kd.R_below (by (with_reducible repeat (first | apply Kd.R_alloc | apply Kd.R_drewN | apply Kd.R_drew)); exact HO_8.out) hb); have n2_ := Aside0.mk (Kd.R_below (by (with_reducible repeat (first | apply Kd.R_alloc | apply Kd.R_drewN | apply Kd.R_drew)); exact HO_17.out) hb); have n3_ := Aside0.mk (below_step (by repeat (first | (with_reducible first | exact HB.out | apply below_alloc | apply pw_below_drewN | apply below_drew1) | exact HB.out)) hb); clear HO_5; clear HO_8; clear HO_17; clear HB; have HO_5 := n0_; have HO_8 := n1_; have HO_17 := n2_; have HB := n3_; clear n0_ n1_ n2_ n3_; (try clear hb); (try clear hb2); (try clear hk); (try clear hi)))
                                      repeat (go_quiet (first | (go_at_call 24; (with_reducible refine (resolventlaw06_wakes.calls  t252 _ (hL.below (by repeat (first | (with_reducible first | exact HB.out | exact Below.refl _ _ | apply below_alloc | apply pw_below_drewN | apply below_drew1) | exact HB.out))) A72.out).mono ?_); rintro e w73 ⟨rfl, hb⟩; have n0_ := Aside0.mk (Kd.R_below (by (with_reducible repeat (first | apply Kd.R_alloc | apply Kd.R_drewN | apply Kd.R_drew)); exact HO_5.out) hb); have n1_ := Aside0.mk (Kd.R_below (by (with_reducible repeat (first | apply Kd.R_alloc | apply Kd.R_drewN | apply Kd.R_drew)); exact HO_8.out) hb); have n2_ := Aside0.mk (Kd.R_below (by (with_reducible repeat (first | apply Kd.R_alloc | apply Kd.R_drewN | apply Kd.R_drew)); exact HO_17.out) hb); have n3_ := Aside0.mk (below_step (by repeat (first | (with_reducible first | exact HB.out | apply below_alloc | apply pw_below_drewN | apply below_drew1) | exact HB.out)) hb); clear HO_5; clear HO_8; clear HO_17; clear HB; have HO_5 := n0_; have HO_8 := n1_; have HO_17 := n2_; have HB := n3_; clear n0_ n1_ n2_ n3_; (try clear hb); (try clear hb2); (try clear hk); (try clear hi))); try go_wp2_with (first | (go_at_call 24; (with_reducible refine (resolventlaw06_wakes.calls  t252 _ (hL.below (by repeat (first | (with_reducible first | exact HB.out | exact Below.refl _ _ | apply below_alloc | apply pw_below_drewN | apply below_drew1) | exact HB.out))) A72.out).mono ?_); rintro e w73 ⟨rfl, hb⟩; have n0_ := Aside0.mk (Kd.R_below (by (with_reducible repeat (first | apply Kd.R_alloc | apply Kd.R_drewN | apply Kd.R_drew)); exact HO_5.out) hb); have n1_ := Aside0.mk (Kd.R_below (by (with_reducible repeat (first | apply Kd.R_alloc | apply Kd.R_drewN | apply Kd.R_drew)); exact HO_8.out) hb); have n2_ := Aside0.mk (Kd.R_below (by (with_reducible repeat (first | apply Kd.R_alloc | apply Kd.R_drewN | apply Kd.R_drew)); exact HO_17.out) hb); have n3_ := Aside0.mk (below_step (by repeat (first | (with_reducible first | exact HB.out | apply below_alloc | apply pw_below_drewN | apply below_drew1) | exact HB.out)) hb); clear HO_5; clear HO_8; clear HO_17; clear HB; have HO_5 := n0_; have HO_8 := n1_; have HO_17 := n2_; have HB := n3_; clear n0_ n1_ n2_ n3_; (try clear hb); (try clear hb2); (try clear hk); (try clear hi))))
                                      go_ret
                                      exact ⟨by first | rfl | (simp [errW_none, errW_some] <;> rfl) | (simp [*, errW_none, errW_some] <;> rfl), by repeat (first | (with_reducible first | exact HB.out | apply below_alloc | apply pw_below_drewN | apply below_drew1) | exact HB.out)⟩
                          · rw [if_neg c36] at H
                            exact absurd H (by simp)
                        · rw [if_neg c35] at H
                          exact absurd H (by simp)
                      · rw [if_neg c34] at H
                        have c34b0 : (t230 == 0) = false := beq_eq_false_iff_ne.mpr c34
                        have c34b1 : (t230 != 0) = true := bne_iff_ne.mpr c34
                        replace H := Option.bind_eq_some_iff.mp H
                        obtain ⟨t246, A740, H⟩ := H
                        replace H : (some t246) = some r := H
                        have A74 := Aside0.mk A740
                        clear A740
                        as_aux_lemma =>
                          obtain rfl := Option.some.inj H
                          obtain ⟨Ao75, co75, eo75⟩ := Kd.R_slice HO_8.out
                          subst eo75
                          go_wp2_with (first | (go_at_call 24; (with_reducible refine (resolventlaw06_wakes.calls  t246 _ (hL.below (by repeat (first | (with_reducible first | exact HB.out | exact Below.refl _ _ | apply below_alloc | apply pw_below_drewN | apply below_drew1) | exact HB.out))) A74.out).mono ?_); rintro e w76 ⟨rfl, hb⟩; have n0_ := Aside0.mk (Kd.R_below (by (with_reducible repeat (first | apply Kd.R_alloc | apply Kd.R_drewN | apply Kd.R_drew)); exact HO_5.out) hb); have n1_ := Aside0.mk (Kd.R_below (by (with_reducible repeat (first | apply Kd.R_alloc | apply Kd.R_drewN | apply Kd.R_drew)); exact HO_8.out) hb); have n2_ := Aside0.mk (Kd.R_below (by (with_reducible repeat (first | apply Kd.R_alloc | apply Kd.R_drewN | apply Kd.R_drew)); exact HO_12.out) hb); have n3_ := Aside0.mk (below_step (by repeat (first | (with_reducible first | exact HB.out | apply below_alloc | apply pw_below_drewN | apply below_drew1) | exact HB.out)) hb); clear HO_5; clear HO_8; clear HO_12; clear HB; have HO_5 := n0_; have HO_8 := n1_; have HO_12 := n2_; have HB := n3_; clear n0_ n1_ n2_ n3_; (try clear hb); (try clear hb2); (try clear hk); (try clear hi)))
                          repeat (go_quiet (first | (go_at_call 24; (with_reducible refine (resolventlaw06_wakes.calls  t246 _ (hL.below (by repeat (first | (with_reducible first | exact HB.out | exact Below.refl _ _ | apply below_alloc | apply pw_below_drewN | apply below_drew1) | exact HB.out))) A74.out).mono ?_); rintro e w76 ⟨rfl, hb⟩; have n0_ := Aside0.mk (Kd.R_below (by (with_reducible repeat (first | apply Kd.R_alloc | apply Kd.R_drewN | apply Kd.R_drew)); exact HO_5.out) hb); have n1_ := Aside0.mk (Kd.R_below (by (with_reducible repeat (first | apply Kd.R_alloc | apply Kd.R_drewN | apply Kd.R_drew)); exact HO_8.out) hb); have n2_ := Aside0.mk (Kd.R_below (by (with_reducible repeat (first | apply Kd.R_alloc | apply Kd.R_drewN | apply Kd.R_drew)); exact HO_12.out) hb); have n3_ := Aside0.mk (below_step (by repeat (first | (with_reducible first | exact HB.out | apply below_alloc | apply pw_below_drewN | apply below_drew1) | exact HB.out)) hb); clear HO_5; clear HO_8; clear HO_12; clear HB; have HO_5 := n0_; have HO_8 := n1_; have HO_12 := n2_; have HB := n3_; clear n0_ n1_ n2_ n3_; (try clear hb); (try clear hb2); (try clear hk); (try clear hi))); try go_wp2_with (first | (go_at_call 24; (with_reducible refine (resolventlaw06_wakes.calls  t246 _ (hL.below (by repeat (first | (with_reducible first | exact HB.out | exact Below.refl _ _ | apply below_alloc | apply pw_below_drewN | apply below_drew1) | exact HB.out))) A74.out).mono ?_); rintro e w76 ⟨rfl, hb⟩; have n0_ := Aside0.mk (Kd.R_below (by (with_reducible repeat (first | apply Kd.R_alloc | apply Kd.R_drewN | apply Kd.R_drew)); exact HO_5.out) hb); have n1_ := Aside0.mk (Kd.R_below (by (with_reducible repeat (first | apply Kd.R_alloc | apply Kd.R_drewN | apply Kd.R_drew)); exact HO_8.out) hb); have n2_ := Aside0.mk (Kd.R_below (by (with_reducible repeat (first | apply Kd.R_alloc | apply Kd.R_drewN | apply Kd.R_drew)); exact HO_12.out) hb); have n3_ := Aside0.mk (below_step (by repeat (first | (with_reducible first | exact HB.out | apply below_alloc | apply pw_below_drewN | apply below_drew1) | exact HB.out)) hb); clear HO_5; clear HO_8; clear HO_12; clear HB; have HO_5 := n0_; have HO_8 := n1_; have HO_12 := n2_; have HB := n3_; clear n0_ n1_ n2_ n3_; (try clear hb); (try clear hb2); (try clear hk); (try clear hi))))
                          go_ret
                          exact ⟨by first | rfl | (simp [errW_none, errW_some] <;> rfl) | (simp [*, errW_none, errW_some] <;> rfl), by repeat (first | (with_reducible first | exact HB.out | apply below_alloc | apply pw_below_drewN | apply below_drew1) | exact HB.out)⟩
        · rw [if_neg c10] at H
          exact absurd H (by simp)

/-- THE ONE PURE STATEMENT of resolventlaw06_LexBlanks: yours. -/
theorem resolventlaw06_LexBlanks.walk (P : resolventlaw06_LexBlanks.Pure) (a0 : ByteArray) (a1 : ByteArray) (w : World) (hL : LaidE w) (w0 : a0.size ≤ 140737488351232) (w1 : a1.size ≤ 140737488351232) :
    Calls Tryd.prog 9 #[.string a0, .string a1] w fun e w' => e = .returned (.bool true) ∧ Below w.heap.size w w' := by
  obtain ⟨k, h⟩ := P a0 a1 w0 w1
  refine (resolventlaw06_LexBlanks.calls k a0 a1 true w (hL.below (by repeat (first | (with_reducible first | exact HB.out | exact Below.refl _ _ | apply below_alloc | apply pw_below_drewN | apply below_drew1) | exact HB.out))) h rfl).mono ?_
  rintro e w' ⟨rfl, hd⟩
  exact ⟨rfl, hd⟩

end Go.Proofs.YthnjdfblappkfaaDoor.P
-- LAID
