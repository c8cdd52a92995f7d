-- Written by a program (p2.py over the kit's print). Not trusted: Lean checks it.
import Derived.Test.YtnimccfcgckheaaDoorP0
import Derived.Test.YtnimccfcgckheaaDoorRefParts
import Derived.Test.YtnimccfcgckheaaDoorPresolventref06take
namespace Go.Proofs.YtnimccfcgckheaaDoor.P
open Go.RowKit Go.Proofs.YtnimccfcgckheaaDoorW.PrintWords Go.Proofs.YtnimccfcgckheaaDoorW.PrintLast Go.Proofs.YtnimccfcgckheaaDoorW.PrintMore
attribute [local go_sem] max2_int min2_int max_two min_two max_three min_three max_four min_four   -- for this text's walks alone
set_option linter.unusedVariables false
set_option linter.unusedSimpArgs false

/-! ### resolventref06_Lex: function 26 -/
mutual
def resolventref06_Lex.l0 : Nat → ByteArray → List (S77) → Int → Option ((List (S77)) × Int × Int)
  | 0, _, _, _ => none
  | k + 1, x0, x5, x6 => (resolventref06_skip.f k x0 x6).bind fun t154 => (if t154 < 0 then (some (([] : List (S77)), wrap64 ((wrap64 (-t154)) - 1), 10)) else (if t154 = (x0.size : Int) then (if x5.length < 2932031007402 then (some ((x5 ++ [(⟨7, (⟨#[]⟩ : ByteArray), 0, t154, false⟩ : S77)]), 0, 0)) else (none)) else ((resolventref06_take.f k x0 t154).bind fun bt158 => (if bt158.2.2.2.2.2.2 = 0 then (resolventref06_Lex.j1 k x0 x5 t154 bt158.2.2.2.2.2.1 bt158.2.2.2.2.2.2 (decide ((bt158.2.1.size : Int) > 32)) bt158.1 bt158.2.1 bt158.2.2.1 bt158.2.2.2.1 bt158.2.2.2.2.1) else (resolventref06_Lex.j1 k x0 x5 t154 bt158.2.2.2.2.2.1 bt158.2.2.2.2.2.2 false bt158.1 bt158.2.1 bt158.2.2.1 bt158.2.2.2.1 bt158.2.2.2.2.1)))))
def resolventref06_Lex.j1 : Nat → ByteArray → List (S77) → Int → Int → Int → Bool → Int → ByteArray → Int → Int → Bool → Option ((List (S77)) × Int × Int)
  | 0, _, _, _, _, _, _, _, _, _, _, _ => none
  | k + 1, x0, x5, x6, x8, x9, x44, x166000, x166001, x166002, x166003, x166004 => if x44 = true then (if 3 = 0 then (if x8 < (x0.size : Int) then (if 0 ≤ x8 then (if x5.length < 2932031007402 then (resolventref06_Lex.l0 k x0 (x5 ++ [(⟨x166000, x166001, x166002, x6, ((bt x0 x8) == 40)⟩ : S77)]) x8) else (none)) else (none)) else (if x5.length < 2932031007402 then (resolventref06_Lex.l0 k x0 (x5 ++ [(⟨x166000, x166001, x166002, x6, false⟩ : S77)]) x8) else (none))) else (some (([] : List (S77)), x6, 3))) else (if x9 = 0 then (if x8 < (x0.size : Int) then (if 0 ≤ x8 then (if x5.length < 2932031007402 then (resolventref06_Lex.l0 k x0 (x5 ++ [(⟨x166000, x166001, x166002, x6, ((bt x0 x8) == 40)⟩ : S77)]) x8) else (none)) else (none)) else (if x5.length < 2932031007402 then (resolventref06_Lex.l0 k x0 (x5 ++ [(⟨x166000, x166001, x166002, x6, false⟩ : S77)]) x8) else (none))) else (some (([] : List (S77)), x6, x9)))
end
def resolventref06_Lex.f (k : Nat) (a0 : ByteArray) : Option ((List (S77)) × Int × Int) := if (a0.size : Int) > 8192 then (some (([] : List (S77)), 0, 3)) else (resolventref06_Lex.l0 k a0 ([] : List (S77)) 0)
theorem resolventref06_Lex.mono_l : ∀ k, (∀ y0 y1 y2, LeO (resolventref06_Lex.l0 k y0 y1 y2) (resolventref06_Lex.l0 (k + 1) y0 y1 y2)) ∧ (∀ y0 y1 y2 y3 y4 y5 y6 y7 y8 y9 y10, LeO (resolventref06_Lex.j1 k y0 y1 y2 y3 y4 y5 y6 y7 y8 y9 y10) (resolventref06_Lex.j1 (k + 1) y0 y1 y2 y3 y4 y5 y6 y7 y8 y9 y10))
  | 0 => ⟨fun _ _ _ r h => by simp [resolventref06_Lex.l0] at h, fun _ _ _ _ _ _ _ _ _ _ _ r h => by simp [resolventref06_Lex.j1] at h⟩
  | k + 1 => by
    obtain ⟨ih0, ih1⟩ := resolventref06_Lex.mono_l k
    refine ⟨?_, ?_⟩
    · intro y0 y1 y2
      unfold resolventref06_Lex.l0
      repeat' first
      | (with_reducible exact ih0 _ _ _)
      | (with_reducible exact ih1 _ _ _ _ _ _ _ _ _ _ _)
      | (with_reducible exact resolventref06_skip.mono _ _ _)
      | (with_reducible exact resolventref06_take.mono _ _ _)
      | (with_reducible exact LeO.refl _)
      | (with_reducible exact LeO.none _)
      | (with_reducible refine LeO.ite ?_ ?_)
      | (with_reducible refine LeO.bind ?_ (fun _ => ?_))
      | exact ih0 _ _ _
      | exact ih1 _ _ _ _ _ _ _ _ _ _ _
      | exact resolventref06_skip.mono _ _ _
      | exact resolventref06_take.mono _ _ _
      | exact LeO.none _
      | refine LeO.ite ?_ ?_
      | refine LeO.bind ?_ (fun _ => ?_)
    · intro y0 y1 y2 y3 y4 y5 y6 y7 y8 y9 y10
      unfold resolventref06_Lex.j1
      repeat' first
      | (with_reducible exact ih0 _ _ _)
      | (with_reducible exact ih1 _ _ _ _ _ _ _ _ _ _ _)
      | (with_reducible exact resolventref06_skip.mono _ _ _)
      | (with_reducible exact resolventref06_take.mono _ _ _)
      | (with_reducible exact LeO.refl _)
      | (with_reducible exact LeO.none _)
      | (with_reducible refine LeO.ite ?_ ?_)
      | (with_reducible refine LeO.bind ?_ (fun _ => ?_))
      | exact ih0 _ _ _
      | exact ih1 _ _ _ _ _ _ _ _ _ _ _
      | exact resolventref06_skip.mono _ _ _
      | exact resolventref06_take.mono _ _ _
      | exact LeO.none _
      | refine LeO.ite ?_ ?_
      | refine LeO.bind ?_ (fun _ => ?_)
theorem resolventref06_Lex.mono : ∀ a0 k, LeO (resolventref06_Lex.f k a0) (resolventref06_Lex.f (k + 1) a0) := by
  intro a0 k
  obtain ⟨ih0, ih1⟩ := resolventref06_Lex.mono_l k
  unfold resolventref06_Lex.f
  repeat' first
      | (with_reducible exact ih0 _ _ _)
      | (with_reducible exact ih1 _ _ _ _ _ _ _ _ _ _ _)
      | (with_reducible exact resolventref06_skip.mono _ _ _)
      | (with_reducible exact resolventref06_take.mono _ _ _)
      | (with_reducible exact LeO.refl _)
      | (with_reducible exact LeO.none _)
      | (with_reducible refine LeO.ite ?_ ?_)
      | (with_reducible refine LeO.bind ?_ (fun _ => ?_))
      | exact ih0 _ _ _
      | exact ih1 _ _ _ _ _ _ _ _ _ _ _
      | exact resolventref06_skip.mono _ _ _
      | exact resolventref06_take.mono _ _ _
      | exact LeO.none _
      | refine LeO.ite ?_ ?_
      | refine LeO.bind ?_ (fun _ => ?_)
set_option maxHeartbeats 8000000 in
set_option maxRecDepth 100000 in
theorem resolventref06_Lex.calls (k : Nat) (a0 : ByteArray) (r1 : List (S77)) (r2 : Int) (r3 : Int) (w : World) (h : resolventref06_Lex.f k a0 = some (r1, r2, r3)) :
    Calls Tryd.prog 26 #[.string a0] w fun e w' => ∃ v0_ : Value, e = .returned (.tuple #[v0_, .int .i64 r2, .int .i64 r3]) ∧ Kd.R k77 77 w' w.heap.size (fun _ => True) v0_ r1 ∧ Below w.heap.size w w' := by
  have hu77 := Tryd.underlying77
  have HB := Aside0.mk (Below.refl w.heap.size w)
  have H : (if (a0.size : Int) > 8192 then (some (([] : List (S77)), 0, 3)) else (resolventref06_Lex.l0 k a0 ([] : List (S77)) 0)) = some (r1, r2, r3) := h
  clear h
  by_cases c2 : (a0.size : Int) > 8192
  · rw [if_pos c2] at H
    have c2b0 : decide (8192 < (a0.size : Int)) = true := decide_eq_true c2
    have c2b1 : decide (8192 < a0.size) = true := decide_eq_true (by omega)
    clear c2
    simp only [Option.some.injEq, Prod.mk.injEq] at H
    obtain ⟨rfl, rfl, rfl⟩ := H
    go_enter Tryd.func26, Tryd.ntmps26
    go_wp2
    go_ret3
    exact ⟨_, by first | rfl | (simp [errW_none, errW_some] <;> rfl) | (simp [*, errW_none, errW_some] <;> rfl), by first | exact Kd.R_nil _ _ _ _ _ | exact Kd.N_nil _ _ _ _ _ | exact Kd.V_nil _ _ _ _ _ | exact Kd.Q_nil _ _ _ _ _ | exact Kd.S_nil _ _ _ _ _, by repeat (first | (with_reducible first | exact HB.out | apply below_alloc | apply pw_below_drewN | apply below_drew1) | exact HB.out)⟩
  · rw [if_neg c2] at H
    have c2b0 : decide (8192 < (a0.size : Int)) = false := decide_eq_false c2
    have c2b1 : decide (8192 < a0.size) = false := decide_eq_false (by omega)
    clear c2
    have H' := Aside0.mk H
    clear H
    go_enter Tryd.func26, Tryd.ntmps26
    go_wp2
    go_loopg [5, 6] k (fun kq v5 v6 w' => ∃ (x5_1 : List (S77)) (x6_1 : Int), v6 = .int .i64 x6_1 ∧ Aside0 (resolventref06_Lex.l0 kq a0 x5_1 x6_1 = some (r1, r2, r3)) ∧ Aside0 (kq ≤ k) ∧ Aside0 (Kd.R k77 77 w' w.heap.size (fun _ => True) v5 x5_1) ∧ Aside0 (Below w.heap.size w w'))
    case atStart => exact ⟨(([] : List (S77))), (0), (by first | rfl | (simp; done) | (simp [*]; done)), H', ⟨Nat.le_refl _⟩, ⟨by first | exact Kd.R_nil _ _ _ _ _ | exact Kd.N_nil _ _ _ _ _ | exact Kd.V_nil _ _ _ _ _ | exact Kd.Q_nil _ _ _ _ _ | exact Kd.S_nil _ _ _ _ _⟩, ⟨by repeat (first | (with_reducible first | exact HB.out | apply below_alloc | apply pw_below_drewN | apply below_drew1) | exact HB.out)⟩⟩
    case round =>
      clear H'
      try clear c2
      try clear c2b0
      try clear c2b1
      try clear p2
      obtain ⟨x5_1, x6_1, rfl, HA, HK1, HO_5, HB⟩ := hrel
      cases gk with
      | zero => exact absurd HA.out (by simp [resolventref06_Lex.l0])
      | succ k1 =>
        have H := HA.out
        clear HA
        simp only [resolventref06_Lex.l0] at H
        replace H := Option.bind_eq_some_iff.mp H
        obtain ⟨t154, A30, H⟩ := H
        replace H : (if t154 < 0 then (some (([] : List (S77)), wrap64 ((wrap64 (-t154)) - 1), 10)) else (if t154 = (a0.size : Int) then (if x5_1.length < 2932031007402 then (some ((x5_1 ++ [(⟨7, (⟨#[]⟩ : ByteArray), 0, t154, false⟩ : S77)]), 0, 0)) else (none)) else ((resolventref06_take.f k1 a0 t154).bind fun bt158 => (if bt158.2.2.2.2.2.2 = 0 then (resolventref06_Lex.j1 k1 a0 x5_1 t154 bt158.2.2.2.2.2.1 bt158.2.2.2.2.2.2 (decide ((bt158.2.1.size : Int) > 32)) bt158.1 bt158.2.1 bt158.2.2.1 bt158.2.2.2.1 bt158.2.2.2.2.1) else (resolventref06_Lex.j1 k1 a0 x5_1 t154 bt158.2.2.2.2.2.1 bt158.2.2.2.2.2.2 false bt158.1 bt158.2.1 bt158.2.2.1 bt158.2.2.2.1 bt158.2.2.2.2.1))))) = some (r1, r2, r3) := H
        have A3 := Aside0.mk A30
        clear A30
        by_cases c4 : t154 < 0
        · rw [if_pos c4] at H
          have c4b0 : decide (t154 < 0) = true := decide_eq_true c4
          clear c4
          simp only [Option.some.injEq, Prod.mk.injEq] at H
          obtain ⟨rfl, rfl, rfl⟩ := H
          go_wp2_with (first | ((with_reducible refine gate_callee (f := 51) rfl ?_); refine goesL_ (some 15) rfl rfl Tryd.func51 (by kernel_rfl) rfl #[.string a0, .int .i64 x6_1] rfl (by (try simp only [List.map_toArray, List.map_cons, List.map_nil]); first | done | rfl | (simp only [List.length_drop, List.length_take]; rfl) | (simp only [Go.Proofs.YtnimccfcgckheaaDoor.ba_from_size]; rfl)) ?_; (with_reducible refine (resolventref06_skip.calls k1 a0 x6_1 t154 _ A3.out).mono ?_); rintro e w' ⟨rfl, ⟨nd, rfl⟩⟩; refine ⟨_, rfl, ?_⟩))
          go_ret3
          exact ⟨_, by first | rfl | (simp [errW_none, errW_some] <;> rfl) | (simp [*, errW_none, errW_some] <;> rfl), by first | exact Kd.R_nil _ _ _ _ _ | exact Kd.N_nil _ _ _ _ _ | exact Kd.V_nil _ _ _ _ _ | exact Kd.Q_nil _ _ _ _ _ | exact Kd.S_nil _ _ _ _ _, by repeat (first | (with_reducible first | exact HB.out | apply below_alloc | apply pw_below_drewN | apply below_drew1) | exact HB.out)⟩
        · rw [if_neg c4] at H
          have c4b0 : decide (t154 < 0) = false := decide_eq_false c4
          clear c4
          by_cases c5 : t154 = (a0.size : Int)
          · rw [if_pos c5] at H
            have c5b0 : (t154 == (a0.size : Int)) = true := beq_iff_eq.mpr c5
            have c5b1 : (t154 != (a0.size : Int)) = false := bne_eq_false_iff_eq.mpr c5
            clear c5
            by_cases c6 : x5_1.length < 2932031007402
            · rw [if_pos c6] at H
              have LMc6 := Aside0.mk c6
              clear c6
              obtain ⟨y155, hy155⟩ : ∃ y_ : List (S77), y_ = (x5_1 ++ [(⟨7, (⟨#[]⟩ : ByteArray), 0, t154, false⟩ : S77)]) := ⟨_, rfl⟩
              replace H : (some (y155, 0, 0)) = some (r1, r2, r3) := by first | (rw [hy155]; with_reducible exact H) | (have H2_ := (Option.bind_some _ _).symm.trans H; rw [hy155]; with_reducible exact H2_) | (have H2_ := (Option.bind_some _ _).symm.trans H; with_reducible exact H2_) | with_reducible exact H | (rw [hy155]; exact H) | exact H
              have Ny155 := Aside0.mk hy155
              clear hy155
              simp only [Option.some.injEq, Prod.mk.injEq] at H
              obtain ⟨rfl, rfl, rfl⟩ := H
              go_wp2_with (first | ((with_reducible refine gate_callee (f := 51) rfl ?_); refine goesL_ (some 15) rfl rfl Tryd.func51 (by kernel_rfl) rfl #[.string a0, .int .i64 x6_1] rfl (by (try simp only [List.map_toArray, List.map_cons, List.map_nil]); first | done | rfl | (simp only [List.length_drop, List.length_take]; rfl) | (simp only [Go.Proofs.YtnimccfcgckheaaDoor.ba_from_size]; rfl)) ?_; (with_reducible refine (resolventref06_skip.calls k1 a0 x6_1 t154 _ A3.out).mono ?_); rintro e w' ⟨rfl, ⟨nd, rfl⟩⟩; refine ⟨_, rfl, ?_⟩) | ((with_reducible refine gate_builtin (b := .append) (xs := #[.tmp 25, .tmp 28]) rfl ?_); (try (refine gate_guard (by rfl) ?_; dsimp only)); at_builtin; refine Kd.R_append k77 (w0 := w) w.heap.size rfl (.tmp 25) (.tmp 28) 43 77 (.agg #[(.int .u8 0), (.string ⟨#[]⟩), (.int .i64 0), (.int .i64 0), (.bool false)]) 48 rfl Tryd.underlying43 info77 rfl (by decide) (by omega) u5 x5_1 (⟨7, (⟨#[]⟩ : ByteArray), 0, t154, false⟩ : S77) [.int .u8 7, .string (⟨#[]⟩ : ByteArray), .int .i64 0, .int .i64 t154, .bool false] (fun _ => True) (fun _ => False) rfl rfl ?aP (fun _ hk => hk.elim) ?aF ?aO ?aB ?aS ?aL ?_; (case aP => exact k77_mkM _ _ _ (⟨7, (⟨#[]⟩ : ByteArray), 0, t154, false⟩ : S77)); (case aB => exact (by repeat (first | (with_reducible first | exact HB.out | apply below_alloc | apply pw_below_drewN | apply below_drew1) | exact HB.out))); (case aF => exact (fun _ _ => trivial)); (case aO => exact (by (with_reducible repeat (first | apply Kd.R_alloc | apply Kd.R_drewN | apply Kd.R_drew)); exact HO_5.out)); (case aS => exact (below_size (by repeat (first | (with_reducible first | exact HB.out | apply below_alloc | apply pw_below_drewN | apply below_drew1) | exact HB.out)))); (case aL => have := LMc6.out; omega); intro v156 w7 ho hb hg hat; rw [← Ny155.out] at ho; have n0_ := Aside0.mk (hb); have n1_ := Aside0.mk (ho); clear HB; clear HO_5; have HB := n0_; have HO157 := n1_; clear n0_ n1_; clear ho hb hg hat))
              go_ret3
              exact ⟨_, by first | rfl | (simp [errW_none, errW_some] <;> rfl) | (simp [*, errW_none, errW_some] <;> rfl), by (with_reducible repeat (first | apply Kd.R_alloc | apply Kd.R_drewN | apply Kd.R_drew)); exact HO157.out, by repeat (first | (with_reducible first | exact HB.out | apply below_alloc | apply pw_below_drewN | apply below_drew1) | exact HB.out)⟩
            · rw [if_neg c6] at H
              exact absurd H (by simp)
          · rw [if_neg c5] at H
            have c5b0 : (t154 == (a0.size : Int)) = false := beq_eq_false_iff_ne.mpr c5
            have c5b1 : (t154 != (a0.size : Int)) = true := bne_iff_ne.mpr c5
            replace H := Option.bind_eq_some_iff.mp H
            obtain ⟨⟨t158, t159, t160, t161, t162, t163, t164⟩, A80, H⟩ := H
            replace H : (if t164 = 0 then (resolventref06_Lex.j1 k1 a0 x5_1 t154 t163 t164 (decide ((t159.size : Int) > 32)) t158 t159 t160 t161 t162) else (resolventref06_Lex.j1 k1 a0 x5_1 t154 t163 t164 false t158 t159 t160 t161 t162)) = some (r1, r2, r3) := H
            have A8 := Aside0.mk A80
            clear A80
            have HC9 := Aside0.mk H
            clear H
            go_upto_region 11 with (first | ((with_reducible refine gate_callee (f := 51) rfl ?_); refine goesL_ (some 15) rfl rfl Tryd.func51 (by kernel_rfl) rfl #[.string a0, .int .i64 x6_1] rfl (by (try simp only [List.map_toArray, List.map_cons, List.map_nil]); first | done | rfl | (simp only [List.length_drop, List.length_take]; rfl) | (simp only [Go.Proofs.YtnimccfcgckheaaDoor.ba_from_size]; rfl)) ?_; (with_reducible refine (resolventref06_skip.calls k1 a0 x6_1 t154 _ A3.out).mono ?_); rintro e w' ⟨rfl, ⟨nd, rfl⟩⟩; refine ⟨_, rfl, ?_⟩; (try (rw [drewN_self wr]; generalize hq_ : World.drewN wr _ = wr; have n0_ : Aside0 (Kd.R k77 77 wr w.heap.size (fun _ => True) u5 x5_1) := ⟨by rw [← hq_]; exact (by (with_reducible repeat (first | apply Kd.R_alloc | apply Kd.R_drewN | apply Kd.R_drew)); exact HO_5.out)⟩; have n1_ : Aside0 (Below w.heap.size w wr) := ⟨by rw [← hq_]; exact (by repeat (first | (with_reducible first | exact HB.out | apply below_alloc | apply pw_below_drewN | apply below_drew1) | exact HB.out))⟩; clear HO_5 HB hq_; have HO_5 := n0_; have HB := n1_; clear n0_ n1_))) | ((with_reducible refine gate_callee (f := 52) rfl ?_); refine goesL_ (some 33) rfl rfl Tryd.func52 (by kernel_rfl) rfl #[.string a0, .int .i64 t154] rfl (by (try simp only [List.map_toArray, List.map_cons, List.map_nil]); first | done | rfl | (simp only [List.length_drop, List.length_take]; rfl) | (simp only [Go.Proofs.YtnimccfcgckheaaDoor.ba_from_size]; rfl)) ?_; (with_reducible refine (resolventref06_take.calls k1 a0 t154 t158 t159 t160 t161 t162 t163 t164 _ A8.out).mono ?_); rintro e w10 ⟨rfl, hb⟩; refine ⟨_, rfl, ?_⟩; have n0_ := Aside0.mk (Kd.R_below (by (with_reducible repeat (first | apply Kd.R_alloc | apply Kd.R_drewN | apply Kd.R_drew)); exact HO_5.out) hb); have n1_ := Aside0.mk (below_step (by repeat (first | (with_reducible first | exact HB.out | apply below_alloc | apply pw_below_drewN | apply below_drew1) | exact HB.out)) hb); clear HO_5; clear HB; have HO_5 := n0_; have HB := n1_; clear n0_ n1_; (try clear hb); (try clear hb2); (try clear hk); (try clear hi)) | ((with_reducible refine gate_dst (N := 7) rfl ?_); (try (refine gate_guard (by rfl) ?_; dsimp only)); refine box_event ?hg (N := 7) ?hd (cs := #[.int .u8 0, .string (⟨#[]⟩ : ByteArray), .int .i64 0, .int .i64 0, .bool false]) (t := 77) ?hr ?_; (case hd => rfl); (case hg => rfl); (case hr => first | (go_simp; done) | (go_simp; rfl)); intro gb165 hg w11 hbox hb; have n0_ := Aside0.mk (Kd.R_below (Kd.R_elderB (by (with_reducible repeat (first | apply Kd.R_alloc | apply Kd.R_drewN | apply Kd.R_drew)); exact HO_5.out) gb165 (Nat.le_of_eq hg.symm)) hb); have n1_ := Aside0.mk (below_step (by repeat (first | (with_reducible first | exact HB.out | apply below_alloc | apply pw_below_drewN | apply below_drew1) | exact HB.out)) hb); have n2_ := Aside0.mk (hbox); have n3_ := Aside0.mk ((by rw [hg]; exact (below_size (by repeat (first | (with_reducible first | exact HB.out | apply below_alloc | apply pw_below_drewN | apply below_drew1) | exact HB.out))) : w.heap.size ≤ gb165)); have n4_ := Aside0.mk ((by rw [hg]; exact (below_size (by repeat (first | (with_reducible first | exact HB.out | apply below_alloc | apply pw_below_drewN | apply below_drew1) | exact HB.out))) : w.heap.size ≤ gb165)); clear HO_5; clear HB; have HO_5 := n0_; have HB := n1_; have BK165 := n2_; have GW165 := n3_; have GE165 := n4_; clear n0_ n1_ n2_ n3_ n4_; clear hb hbox hg; have hcz12_0 : w11.cell? ⟨gb165, 0, none⟩ = some (.int .u8 0) := (blk_cell BK165.out 0).trans rfl; have hcz12_1 : w11.cell? ⟨gb165, 1, none⟩ = some (.string (⟨#[]⟩ : ByteArray)) := (blk_cell BK165.out 1).trans rfl; have hcz12_2 : w11.cell? ⟨gb165, 2, none⟩ = some (.int .i64 0) := (blk_cell BK165.out 2).trans rfl; have hcz12_3 : w11.cell? ⟨gb165, 3, none⟩ = some (.int .i64 0) := (blk_cell BK165.out 3).trans rfl; have hcz12_4 : w11.cell? ⟨gb165, 4, none⟩ = some (.bool false) := (blk_cell BK165.out 4).trans rfl; have hfz12_0 := blk_frozen BK165.out 0; have hfz12_1 := blk_frozen BK165.out 1; have hfz12_2 := blk_frozen BK165.out 2; have hfz12_3 := blk_frozen BK165.out 3; have hfz12_4 := blk_frozen BK165.out 4))
            (try simp only [Act.put, List.setIfInBounds_toArray, List.set_cons_zero, List.set_cons_succ])
            go_cut [44] (fun v44 wc => ∃ (kq : Nat) (x44_8 : Bool), v44 = .bool x44_8 ∧ Aside0 (resolventref06_Lex.j1 kq a0 x5_1 t154 t163 t164 x44_8 t158 t159 t160 t161 t162 = some (r1, r2, r3)) ∧ Aside0 (kq ≤ k1) ∧ Aside0 (Kd.R k77 77 wc w.heap.size (fun k_ => k_ ≠ gb165) u5 x5_1) ∧ Aside0 (wc.heap[gb165]? = some (.cells #[.int .u8 t158, .string t159, .int .i64 t160, .int .i64 t161, .bool t162] 77 (0, 0))) ∧ Aside0 (Below w.heap.size w wc))
            case first =>
              have H := HC9.out
              clear HC9
              by_cases c13 : t164 = 0
              · rw [if_pos c13] at H
                have c13b0 : (t164 == 0) = true := beq_iff_eq.mpr c13
                have c13b1 : (t164 != 0) = false := bne_eq_false_iff_eq.mpr c13
                clear c13
                (first | rw [c13b0] | (simp only [i64_w, i32_w]; rw [c13b0]) | skip)
                have H' := Aside0.mk H
                clear H
                have hcz14_0 : w11.cell? ⟨gb165, 0, none⟩ = some (.int .u8 0) := (blk_cell BK165.out 0).trans rfl
                have hcz14_1 : w11.cell? ⟨gb165, 1, none⟩ = some (.string (⟨#[]⟩ : ByteArray)) := (blk_cell BK165.out 1).trans rfl
                have hcz14_2 : w11.cell? ⟨gb165, 2, none⟩ = some (.int .i64 0) := (blk_cell BK165.out 2).trans rfl
                have hcz14_3 : w11.cell? ⟨gb165, 3, none⟩ = some (.int .i64 0) := (blk_cell BK165.out 3).trans rfl
                have hcz14_4 : w11.cell? ⟨gb165, 4, none⟩ = some (.bool false) := (blk_cell BK165.out 4).trans rfl
                have hfz14_0 := blk_frozen BK165.out 0
                have hfz14_1 := blk_frozen BK165.out 1
                have hfz14_2 := blk_frozen BK165.out 2
                have hfz14_3 := blk_frozen BK165.out 3
                have hfz14_4 := blk_frozen BK165.out 4
                go_wp2
                go_meet
                case rel => exact ⟨_, (decide ((t159.size : Int) > 32)), (by first | rfl | (simp; done) | (simp [*]; done)), H', ⟨by have := HK1.out; first | omega | exact Nat.le_refl _⟩, ⟨by (with_reducible repeat (first | apply Kd.R_alloc | apply Kd.R_drewN | apply Kd.R_drew)); exact Kd.R_mono (Kd.R_far (p := ⟨gb165, 4, none⟩) (Kd.R_far (p := ⟨gb165, 3, none⟩) (Kd.R_far (p := ⟨gb165, 2, none⟩) (Kd.R_far (p := ⟨gb165, 1, none⟩) (Kd.R_far (p := ⟨gb165, 0, none⟩) (Kd.R_mono HO_5.out (fun k_ hk => (⟨hk, hk.2⟩ : _ ∧ k_ ≠ gb165))) (fun _ hk => hk.2) (.int .u8 t158)) (fun _ hk => hk.2) (.string t159)) (fun _ hk => hk.2) (.int .i64 t160)) (fun _ hk => hk.2) (.int .i64 t161)) (fun _ hk => hk.2) (.bool t162)) (fun _ hk => hk.1.2)⟩, ⟨by (with_reducible repeat (first | refine blk_drewN ?_ _ | refine blk_drew ?_ | refine blk_alloc ?_ _)); refine blk_put (cs := #[.int .u8 t158, .string t159, .int .i64 t160, .int .i64 t161, .bool false]) ?_ 4 _ rfl; (with_reducible repeat (first | refine blk_drewN ?_ _ | refine blk_drew ?_ | refine blk_alloc ?_ _)); refine blk_put (cs := #[.int .u8 t158, .string t159, .int .i64 t160, .int .i64 0, .bool false]) ?_ 3 _ rfl; (with_reducible repeat (first | refine blk_drewN ?_ _ | refine blk_drew ?_ | refine blk_alloc ?_ _)); refine blk_put (cs := #[.int .u8 t158, .string t159, .int .i64 0, .int .i64 0, .bool false]) ?_ 2 _ rfl; (with_reducible repeat (first | refine blk_drewN ?_ _ | refine blk_drew ?_ | refine blk_alloc ?_ _)); refine blk_put (cs := #[.int .u8 t158, .string (⟨#[]⟩ : ByteArray), .int .i64 0, .int .i64 0, .bool false]) ?_ 1 _ rfl; (with_reducible repeat (first | refine blk_drewN ?_ _ | refine blk_drew ?_ | refine blk_alloc ?_ _)); refine blk_put (cs := #[.int .u8 0, .string (⟨#[]⟩ : ByteArray), .int .i64 0, .int .i64 0, .bool false]) ?_ 0 _ rfl; (with_reducible repeat (first | refine blk_drewN ?_ _ | refine blk_drew ?_ | refine blk_alloc ?_ _)); exact BK165.out⟩, ⟨by repeat (first | (with_reducible first | exact HB.out | apply below_alloc | apply pw_below_drewN | apply below_drew1 | refine below_set ?_ GE165.out) | exact HB.out)⟩⟩
              · rw [if_neg c13] at H
                have c13b0 : (t164 == 0) = false := beq_eq_false_iff_ne.mpr c13
                have c13b1 : (t164 != 0) = true := bne_iff_ne.mpr c13
                (first | rw [c13b0] | (simp only [i64_w, i32_w]; rw [c13b0]) | skip)
                have H' := Aside0.mk H
                clear H
                go_wp2
                go_meet
                case rel => exact ⟨_, (false), (by first | rfl | (simp; done) | (simp [*]; done)), H', ⟨by have := HK1.out; first | omega | exact Nat.le_refl _⟩, ⟨by (with_reducible repeat (first | apply Kd.R_alloc | apply Kd.R_drewN | apply Kd.R_drew)); exact Kd.R_mono (Kd.R_far (p := ⟨gb165, 4, none⟩) (Kd.R_far (p := ⟨gb165, 3, none⟩) (Kd.R_far (p := ⟨gb165, 2, none⟩) (Kd.R_far (p := ⟨gb165, 1, none⟩) (Kd.R_far (p := ⟨gb165, 0, none⟩) (Kd.R_mono HO_5.out (fun k_ hk => (⟨hk, hk.2⟩ : _ ∧ k_ ≠ gb165))) (fun _ hk => hk.2) (.int .u8 t158)) (fun _ hk => hk.2) (.string t159)) (fun _ hk => hk.2) (.int .i64 t160)) (fun _ hk => hk.2) (.int .i64 t161)) (fun _ hk => hk.2) (.bool t162)) (fun _ hk => hk.1.2)⟩, ⟨by (with_reducible repeat (first | refine blk_drewN ?_ _ | refine blk_drew ?_ | refine blk_alloc ?_ _)); refine blk_put (cs := #[.int .u8 t158, .string t159, .int .i64 t160, .int .i64 t161, .bool false]) ?_ 4 _ rfl; (with_reducible repeat (first | refine blk_drewN ?_ _ | refine blk_drew ?_ | refine blk_alloc ?_ _)); refine blk_put (cs := #[.int .u8 t158, .string t159, .int .i64 t160, .int .i64 0, .bool false]) ?_ 3 _ rfl; (with_reducible repeat (first | refine blk_drewN ?_ _ | refine blk_drew ?_ | refine blk_alloc ?_ _)); refine blk_put (cs := #[.int .u8 t158, .string t159, .int .i64 0, .int .i64 0, .bool false]) ?_ 2 _ rfl; (with_reducible repeat (first | refine blk_drewN ?_ _ | refine blk_drew ?_ | refine blk_alloc ?_ _)); refine blk_put (cs := #[.int .u8 t158, .string (⟨#[]⟩ : ByteArray), .int .i64 0, .int .i64 0, .bool false]) ?_ 1 _ rfl; (with_reducible repeat (first | refine blk_drewN ?_ _ | refine blk_drew ?_ | refine blk_alloc ?_ _)); refine blk_put (cs := #[.int .u8 0, .string (⟨#[]⟩ : ByteArray), .int .i64 0, .int .i64 0, .bool false]) ?_ 0 _ rfl; (with_reducible repeat (first | refine blk_drewN ?_ _ | refine blk_drew ?_ | refine blk_alloc ?_ _)); exact BK165.out⟩, ⟨by repeat (first | (with_reducible first | exact HB.out | apply below_alloc | apply pw_below_drewN | apply below_drew1 | refine below_set ?_ GE165.out) | exact HB.out)⟩⟩
            case rest =>
              clear HC9
              try clear c1
              try clear c2
              try clear c2b0
              try clear c2b1
              try clear p2
              try clear c4
              try clear c4b0
              try clear c5
              try clear c5b0
              try clear c5b1
              try clear c6
              try clear p6
              try clear c13
              try clear c13b0
              try clear c13b1
              try clear hcz12_0
              try clear hcz12_1
              try clear hcz12_2
              try clear hcz12_3
              try clear hcz12_4
              try clear hcz14_0
              try clear hcz14_1
              try clear hcz14_2
              try clear hcz14_3
              try clear hcz14_4
              try clear hfz12_0
              try clear hfz12_1
              try clear hfz12_2
              try clear hfz12_3
              try clear hfz12_4
              try clear hfz14_0
              try clear hfz14_1
              try clear hfz14_2
              try clear hfz14_3
              try clear hfz14_4
              try clear p2
              obtain ⟨kq, x44_8, rfl, HA, HJ8, HO_5, BK165, HB⟩ := hcut
              cases kq with
              | zero => exact absurd HA.out (by simp [resolventref06_Lex.j1])
              | succ kj8 =>
                have H := HA.out
                clear HA
                simp only [resolventref06_Lex.j1] at H
                by_cases c15 : x44_8 = true
                · subst c15
                  have H1 : (if 3 = 0 then (if t163 < (a0.size : Int) then (if 0 ≤ t163 then (if x5_1.length < 2932031007402 then (resolventref06_Lex.l0 kj8 a0 (x5_1 ++ [(⟨t158, t159, t160, t154, ((bt a0 t163) == 40)⟩ : S77)]) t163) else (none)) else (none)) else (if x5_1.length < 2932031007402 then (resolventref06_Lex.l0 kj8 a0 (x5_1 ++ [(⟨t158, t159, t160, t154, false⟩ : S77)]) t163) else (none))) else (some (([] : List (S77)), t154, 3))) = some (r1, r2, r3) := by rw [if_pos rfl] at H; exact H
                  clear H
                  have H := H1
                  clear H1
                  by_cases c16 : 3 = 0
                  · exact absurd c16 (by decide)
                  · rw [if_neg c16] at H
                    have c16b0 : (3 == 0) = false := beq_eq_false_iff_ne.mpr c16
                    have c16b1 : (3 != 0) = true := bne_iff_ne.mpr c16
                    simp only [Option.some.injEq, Prod.mk.injEq] at H
                    obtain ⟨rfl, rfl, rfl⟩ := H
                    go_wp2
                    go_ret3
                    exact ⟨_, by first | rfl | (simp [errW_none, errW_some] <;> rfl) | (simp [*, errW_none, errW_some] <;> rfl), by first | exact Kd.R_nil _ _ _ _ _ | exact Kd.N_nil _ _ _ _ _ | exact Kd.V_nil _ _ _ _ _ | exact Kd.Q_nil _ _ _ _ _ | exact Kd.S_nil _ _ _ _ _, by repeat (first | (with_reducible first | exact HB.out | apply below_alloc | apply pw_below_drewN | apply below_drew1 | refine below_set ?_ GE165.out) | exact HB.out)⟩
                · replace c15 := Bool.eq_false_iff.mpr c15
                  subst c15
                  have H1 : (if t164 = 0 then (if t163 < (a0.size : Int) then (if 0 ≤ t163 then (if x5_1.length < 2932031007402 then (resolventref06_Lex.l0 kj8 a0 (x5_1 ++ [(⟨t158, t159, t160, t154, ((bt a0 t163) == 40)⟩ : S77)]) t163) else (none)) else (none)) else (if x5_1.length < 2932031007402 then (resolventref06_Lex.l0 kj8 a0 (x5_1 ++ [(⟨t158, t159, t160, t154, false⟩ : S77)]) t163) else (none))) else (some (([] : List (S77)), t154, t164))) = some (r1, r2, r3) := by rw [if_neg (show ¬ (false = true) by decide)] at H; exact H
                  clear H
                  have H := H1
                  clear H1
                  by_cases c26 : t164 = 0
                  · rw [if_pos c26] at H
                    have c26b0 : (t164 == 0) = true := beq_iff_eq.mpr c26
                    have c26b1 : (t164 != 0) = false := bne_eq_false_iff_eq.mpr c26
                    clear c26
                    by_cases c27 : t163 < (a0.size : Int)
                    · rw [if_pos c27] at H
                      have c27b0 : decide (t163 < (a0.size : Int)) = true := decide_eq_true c27
                      clear c27
                      by_cases c28 : 0 ≤ t163
                      · rw [if_pos c28] at H
                        have c28b0 : decide (0 ≤ t163) = true := decide_eq_true c28
                        clear c28
                        by_cases c30 : x5_1.length < 2932031007402
                        · rw [if_pos c30] at H
                          have LMc30 := Aside0.mk c30
                          clear c30
                          obtain ⟨y172, hy172⟩ : ∃ y_ : List (S77), y_ = (x5_1 ++ [(⟨t158, t159, t160, t154, ((bt a0 t163) == 40)⟩ : S77)]) := ⟨_, rfl⟩
                          replace H : (resolventref06_Lex.l0 kj8 a0 y172 t163) = some (r1, r2, r3) := by first | (rw [hy172]; with_reducible exact H) | (have H2_ := (Option.bind_some _ _).symm.trans H; rw [hy172]; with_reducible exact H2_) | (have H2_ := (Option.bind_some _ _).symm.trans H; with_reducible exact H2_) | with_reducible exact H | (rw [hy172]; exact H) | exact H
                          have Ny172 := Aside0.mk hy172
                          clear hy172
                          have H' := Aside0.mk H
                          clear H
                          have hcz31_0 : wc.cell? ⟨gb165, 0, none⟩ = some (.int .u8 t158) := (blk_cell BK165.out 0).trans rfl
                          have hcz31_1 : wc.cell? ⟨gb165, 1, none⟩ = some (.string t159) := (blk_cell BK165.out 1).trans rfl
                          have hcz31_2 : wc.cell? ⟨gb165, 2, none⟩ = some (.int .i64 t160) := (blk_cell BK165.out 2).trans rfl
                          have hcz31_3 : wc.cell? ⟨gb165, 3, none⟩ = some (.int .i64 t161) := (blk_cell BK165.out 3).trans rfl
                          have hcz31_4 : wc.cell? ⟨gb165, 4, none⟩ = some (.bool t162) := (blk_cell BK165.out 4).trans rfl
                          have hfz31_0 := blk_frozen BK165.out 0
                          have hfz31_1 := blk_frozen BK165.out 1
                          have hfz31_2 := blk_frozen BK165.out 2
                          have hfz31_3 := blk_frozen BK165.out 3
                          have hfz31_4 := blk_frozen BK165.out 4
                          have p29 : 0 ≤ (t163 : Int) := of_decide_eq_true (by first | (with_reducible assumption) | assumption)
                          have q29 : t163 < (a0.size : Int) := of_decide_eq_true (by first | (with_reducible assumption) | assumption)
                          have hx29 := bt_at a0 t163
                          replace p29 := eq_true p29
                          replace q29 := eq_true q29
                          go_wp2_with (first | ((with_reducible refine gate_builtin (b := .append) (xs := #[.tmp 62, .tmp 64]) rfl ?_); (try (refine gate_guard (by rfl) ?_; dsimp only)); at_builtin; refine Kd.R_append k77 (w0 := w) w.heap.size rfl (.tmp 62) (.tmp 64) 43 77 (.agg #[(.int .u8 0), (.string ⟨#[]⟩), (.int .i64 0), (.int .i64 0), (.bool false)]) 48 rfl Tryd.underlying43 info77 rfl (by decide) (by omega) u5 x5_1 (⟨t158, t159, t160, t154, ((bt a0 t163) == 40)⟩ : S77) [.int .u8 t158, .string t159, .int .i64 t160, .int .i64 t154, .bool ((bt a0 t163) == 40)] (fun k_ => k_ ≠ gb165) (fun _ => False) rfl (by first | (go_simp; done) | (go_simp; rfl)) ?aP (fun _ hk => hk.elim) ?aF ?aO ?aB ?aS ?aL ?_; (case aP => exact k77_mkM _ _ _ (⟨t158, t159, t160, t154, ((bt a0 t163) == 40)⟩ : S77)); (case aB => exact (by repeat (first | (with_reducible first | exact HB.out | apply below_alloc | apply pw_below_drewN | apply below_drew1 | refine below_set ?_ GE165.out) | exact HB.out))); (case aF => exact (fun k_ hk => Kd.freshB (g := gb165) (o := .cells #[.int .u8 t158, .string t159, .int .i64 t160, .int .i64 t154, .bool ((bt a0 t163) == 40)] 77 (0, 0)) (by (with_reducible repeat (first | refine blk_drewN ?_ _ | refine blk_drew ?_ | refine blk_alloc ?_ _)); refine blk_put (cs := #[.int .u8 t158, .string t159, .int .i64 t160, .int .i64 t154, .bool t162]) ?_ 4 _ rfl; (with_reducible repeat (first | refine blk_drewN ?_ _ | refine blk_drew ?_ | refine blk_alloc ?_ _)); refine blk_put (cs := #[.int .u8 t158, .string t159, .int .i64 t160, .int .i64 t161, .bool t162]) ?_ 3 _ rfl; (with_reducible repeat (first | refine blk_drewN ?_ _ | refine blk_drew ?_ | refine blk_alloc ?_ _)); exact BK165.out) k_ hk)); (case aO => exact (by (with_reducible repeat (first | apply Kd.R_alloc | apply Kd.R_drewN | apply Kd.R_drew)); exact Kd.R_mono (Kd.R_far (p := ⟨gb165, 4, none⟩) (Kd.R_far (p := ⟨gb165, 3, none⟩) (Kd.R_mono HO_5.out (fun k_ hk => (⟨hk, hk⟩ : _ ∧ k_ ≠ gb165))) (fun _ hk => hk.2) (.int .i64 t154)) (fun _ hk => hk.2) (.bool ((bt a0 t163) == 40))) (fun _ hk => hk.1))); (case aS => exact (below_size (by repeat (first | (with_reducible first | exact HB.out | apply below_alloc | apply pw_below_drewN | apply below_drew1 | refine below_set ?_ GE165.out) | exact HB.out)))); (case aL => have := LMc30.out; omega); intro v173 w32 ho hb hg hat; rw [← Ny172.out] at ho; have n0_ := Aside0.mk (blk_grown (g := gb165) (o := .cells #[.int .u8 t158, .string t159, .int .i64 t160, .int .i64 t154, .bool ((bt a0 t163) == 40)] 77 (0, 0)) (by (with_reducible repeat (first | refine blk_drewN ?_ _ | refine blk_drew ?_ | refine blk_alloc ?_ _)); refine blk_put (cs := #[.int .u8 t158, .string t159, .int .i64 t160, .int .i64 t154, .bool t162]) ?_ 4 _ rfl; (with_reducible repeat (first | refine blk_drewN ?_ _ | refine blk_drew ?_ | refine blk_alloc ?_ _)); refine blk_put (cs := #[.int .u8 t158, .string t159, .int .i64 t160, .int .i64 t161, .bool t162]) ?_ 3 _ rfl; (with_reducible repeat (first | refine blk_drewN ?_ _ | refine blk_drew ?_ | refine blk_alloc ?_ _)); exact BK165.out) hg (Kd.R_away HO_5.out (fun _ hk => hk))); have n1_ := Aside0.mk (hb); have n2_ := Aside0.mk (ho); clear BK165; clear HB; clear HO_5; have BK165 := n0_; have HB := n1_; have HO174 := n2_; clear n0_ n1_ n2_; clear ho hb hg hat))
                          go_roundg kj8
                          case measure => have := HK1.out; have := HJ8.out; omega
                          case rel => exact ⟨(y172), (t163), (by first | rfl | (simp; done) | (simp [*]; done)), H', ⟨by have := HK1.out; have := HJ8.out; omega⟩, ⟨by (with_reducible repeat (first | apply Kd.R_alloc | apply Kd.R_drewN | apply Kd.R_drew)); exact Kd.R_mono HO174.out (fun _ hk => trivial)⟩, ⟨by repeat (first | (with_reducible first | exact HB.out | apply below_alloc | apply pw_below_drewN | apply below_drew1 | refine below_set ?_ GE165.out) | exact HB.out)⟩⟩
                        · rw [if_neg c30] at H
                          exact absurd H (by simp)
                      · rw [if_neg c28] at H
                        exact absurd H (by simp)
                    · rw [if_neg c27] at H
                      have c27b0 : decide (t163 < (a0.size : Int)) = false := decide_eq_false c27
                      clear c27
                      by_cases c33 : x5_1.length < 2932031007402
                      · rw [if_pos c33] at H
                        have LMc33 := Aside0.mk c33
                        clear c33
                        obtain ⟨y175, hy175⟩ : ∃ y_ : List (S77), y_ = (x5_1 ++ [(⟨t158, t159, t160, t154, false⟩ : S77)]) := ⟨_, rfl⟩
                        replace H : (resolventref06_Lex.l0 kj8 a0 y175 t163) = some (r1, r2, r3) := by first | (rw [hy175]; with_reducible exact H) | (have H2_ := (Option.bind_some _ _).symm.trans H; rw [hy175]; with_reducible exact H2_) | (have H2_ := (Option.bind_some _ _).symm.trans H; with_reducible exact H2_) | with_reducible exact H | (rw [hy175]; exact H) | exact H
                        have Ny175 := Aside0.mk hy175
                        clear hy175
                        have H' := Aside0.mk H
                        clear H
                        have hcz34_0 : wc.cell? ⟨gb165, 0, none⟩ = some (.int .u8 t158) := (blk_cell BK165.out 0).trans rfl
                        have hcz34_1 : wc.cell? ⟨gb165, 1, none⟩ = some (.string t159) := (blk_cell BK165.out 1).trans rfl
                        have hcz34_2 : wc.cell? ⟨gb165, 2, none⟩ = some (.int .i64 t160) := (blk_cell BK165.out 2).trans rfl
                        have hcz34_3 : wc.cell? ⟨gb165, 3, none⟩ = some (.int .i64 t161) := (blk_cell BK165.out 3).trans rfl
                        have hcz34_4 : wc.cell? ⟨gb165, 4, none⟩ = some (.bool t162) := (blk_cell BK165.out 4).trans rfl
                        have hfz34_0 := blk_frozen BK165.out 0
                        have hfz34_1 := blk_frozen BK165.out 1
                        have hfz34_2 := blk_frozen BK165.out 2
                        have hfz34_3 := blk_frozen BK165.out 3
                        have hfz34_4 := blk_frozen BK165.out 4
                        go_wp2_with (first | ((with_reducible refine gate_builtin (b := .append) (xs := #[.tmp 62, .tmp 64]) rfl ?_); (try (refine gate_guard (by rfl) ?_; dsimp only)); at_builtin; refine Kd.R_append k77 (w0 := w) w.heap.size rfl (.tmp 62) (.tmp 64) 43 77 (.agg #[(.int .u8 0), (.string ⟨#[]⟩), (.int .i64 0), (.int .i64 0), (.bool false)]) 48 rfl Tryd.underlying43 info77 rfl (by decide) (by omega) u5 x5_1 (⟨t158, t159, t160, t154, false⟩ : S77) [.int .u8 t158, .string t159, .int .i64 t160, .int .i64 t154, .bool false] (fun k_ => k_ ≠ gb165) (fun _ => False) rfl (by first | (go_simp; done) | (go_simp; rfl)) ?aP (fun _ hk => hk.elim) ?aF ?aO ?aB ?aS ?aL ?_; (case aP => exact k77_mkM _ _ _ (⟨t158, t159, t160, t154, false⟩ : S77)); (case aB => exact (by repeat (first | (with_reducible first | exact HB.out | apply below_alloc | apply pw_below_drewN | apply below_drew1 | refine below_set ?_ GE165.out) | exact HB.out))); (case aF => exact (fun k_ hk => Kd.freshB (g := gb165) (o := .cells #[.int .u8 t158, .string t159, .int .i64 t160, .int .i64 t154, .bool false] 77 (0, 0)) (by (with_reducible repeat (first | refine blk_drewN ?_ _ | refine blk_drew ?_ | refine blk_alloc ?_ _)); refine blk_put (cs := #[.int .u8 t158, .string t159, .int .i64 t160, .int .i64 t154, .bool t162]) ?_ 4 _ rfl; (with_reducible repeat (first | refine blk_drewN ?_ _ | refine blk_drew ?_ | refine blk_alloc ?_ _)); refine blk_put (cs := #[.int .u8 t158, .string t159, .int .i64 t160, .int .i64 t161, .bool t162]) ?_ 3 _ rfl; (with_reducible repeat (first | refine blk_drewN ?_ _ | refine blk_drew ?_ | refine blk_alloc ?_ _)); exact BK165.out) k_ hk)); (case aO => exact (by (with_reducible repeat (first | apply Kd.R_alloc | apply Kd.R_drewN | apply Kd.R_drew)); exact Kd.R_mono (Kd.R_far (p := ⟨gb165, 4, none⟩) (Kd.R_far (p := ⟨gb165, 3, none⟩) (Kd.R_mono HO_5.out (fun k_ hk => (⟨hk, hk⟩ : _ ∧ k_ ≠ gb165))) (fun _ hk => hk.2) (.int .i64 t154)) (fun _ hk => hk.2) (.bool false)) (fun _ hk => hk.1))); (case aS => exact (below_size (by repeat (first | (with_reducible first | exact HB.out | apply below_alloc | apply pw_below_drewN | apply below_drew1 | refine below_set ?_ GE165.out) | exact HB.out)))); (case aL => have := LMc33.out; omega); intro v176 w35 ho hb hg hat; rw [← Ny175.out] at ho; have n0_ := Aside0.mk (blk_grown (g := gb165) (o := .cells #[.int .u8 t158, .string t159, .int .i64 t160, .int .i64 t154, .bool false] 77 (0, 0)) (by (with_reducible repeat (first | refine blk_drewN ?_ _ | refine blk_drew ?_ | refine blk_alloc ?_ _)); refine blk_put (cs := #[.int .u8 t158, .string t159, .int .i64 t160, .int .i64 t154, .bool t162]) ?_ 4 _ rfl; (with_reducible repeat (first | refine blk_drewN ?_ _ | refine blk_drew ?_ | refine blk_alloc ?_ _)); refine blk_put (cs := #[.int .u8 t158, .string t159, .int .i64 t160, .int .i64 t161, .bool t162]) ?_ 3 _ rfl; (with_reducible repeat (first | refine blk_drewN ?_ _ | refine blk_drew ?_ | refine blk_alloc ?_ _)); exact BK165.out) hg (Kd.R_away HO_5.out (fun _ hk => hk))); have n1_ := Aside0.mk (hb); have n2_ := Aside0.mk (ho); clear BK165; clear HB; clear HO_5; have BK165 := n0_; have HB := n1_; have HO177 := n2_; clear n0_ n1_ n2_; clear ho hb hg hat))
                        go_roundg kj8
                        case measure => have := HK1.out; have := HJ8.out; omega
                        case rel => exact ⟨(y175), (t163), (by first | rfl | (simp; done) | (simp [*]; done)), H', ⟨by have := HK1.out; have := HJ8.out; omega⟩, ⟨by (with_reducible repeat (first | apply Kd.R_alloc | apply Kd.R_drewN | apply Kd.R_drew)); exact Kd.R_mono HO177.out (fun _ hk => trivial)⟩, ⟨by repeat (first | (with_reducible first | exact HB.out | apply below_alloc | apply pw_below_drewN | apply below_drew1 | refine below_set ?_ GE165.out) | exact HB.out)⟩⟩
                      · rw [if_neg c33] at H
                        exact absurd H (by simp)
                  · rw [if_neg c26] at H
                    have c26b0 : (t164 == 0) = false := beq_eq_false_iff_ne.mpr c26
                    have c26b1 : (t164 != 0) = true := bne_iff_ne.mpr c26
                    simp only [Option.some.injEq, Prod.mk.injEq] at H
                    obtain ⟨rfl, rfl, rfl⟩ := H
                    go_wp2
                    go_ret3
                    exact ⟨_, by first | rfl | (simp [errW_none, errW_some] <;> rfl) | (simp [*, errW_none, errW_some] <;> rfl), by first | exact Kd.R_nil _ _ _ _ _ | exact Kd.N_nil _ _ _ _ _ | exact Kd.V_nil _ _ _ _ _ | exact Kd.Q_nil _ _ _ _ _ | exact Kd.S_nil _ _ _ _ _, by repeat (first | (with_reducible first | exact HB.out | apply below_alloc | apply pw_below_drewN | apply below_drew1 | refine below_set ?_ GE165.out) | exact HB.out)⟩

end Go.Proofs.YtnimccfcgckheaaDoor.P
