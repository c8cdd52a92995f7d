/- Several small texts of this claim in one. -/
import Derived.Test.YtecjdjdfikcliaaGreatDoorP0
import Derived.Test.YtecjdjdfikcliaaGreatDoorMLexB
import Derived.Test.YtecjdjdfikcliaaGreatDoorMLexA
import Derived.Test.YtecjdjdfikcliaaGreatDoorMLx
section
-- Written by a program (p2.py over the kit's print). Not trusted: Lean checks it.
namespace Go.Proofs.YtecjdjdfikcliaaGreatDoor.P
open Go.RowKit Go.Proofs.YtecjdjdfikcliaaGreatDoorW.PrintWords Go.Proofs.YtecjdjdfikcliaaGreatDoorW.PrintLast Go.Proofs.YtecjdjdfikcliaaGreatDoorW.PrintMore
attribute [local go_sem] max2_int min2_int max_two min_two max_three min_three max_four min_four   -- for this text's walks alone
set_option linter.unusedVariables false
set_option linter.unusedSimpArgs false

/-! ### lex_symbol: function 49 -/
def lex_symbol.f (a0 : ByteArray) : Option (Int × ByteArray × Int × Int × Bool × Int × Int) := (lex_run.f a0 (⟨#[43, 45, 42, 47, 92, 94, 60, 62, 61, 126, 58, 46, 63, 64, 35, 38, 36]⟩ : ByteArray)).bind fun t155 => (if 0 ≤ t155 then (if t155 ≤ (a0.size : Int) then (if (a0.extract 0 (t155 : Int).toNat).toList = ([46] : List UInt8) then (if t155 = (a0.size : Int) then (some (6, (⟨#[]⟩ : ByteArray), 0, 0, false, t155, 0)) else (if t155 < (a0.size : Int) then ((strings_IndexByte.f (⟨#[32, 9, 13, 10, 37]⟩ : ByteArray) (bt a0 t155)).bind fun t156 => (if t156 ≥ 0 then (some (6, (⟨#[]⟩ : ByteArray), 0, 0, false, t155, 0)) else (some (1, a0.extract 0 (t155 : Int).toNat, 0, 0, false, t155, 0)))) else (none))) else (some (1, a0.extract 0 (t155 : Int).toNat, 0, 0, false, t155, 0))) else (none)) else (none))
set_option maxHeartbeats 8000000 in
set_option maxRecDepth 100000 in
theorem lex_symbol.calls (a0 : ByteArray) (r1 : Int) (r2 : ByteArray) (r3 : Int) (r4 : Int) (r5 : Bool) (r6 : Int) (r7 : Int) (w : World) (h : lex_symbol.f a0 = some (r1, r2, r3, r4, r5, r6, r7)) :
    Calls Tryz.prog 49 #[.string a0] w fun e w' => e = .returned (.tuple #[.agg #[.int .u8 r1, .string r2, .int .i64 r3, .int .i64 r4, .bool r5], .int .i64 r6, .int .i64 r7]) ∧ Below w.heap.size w w' := by
  have hu62 := Tryz.underlying62
  have HB := Aside0.mk (Below.refl w.heap.size w)
  have H : ((lex_run.f a0 (⟨#[43, 45, 42, 47, 92, 94, 60, 62, 61, 126, 58, 46, 63, 64, 35, 38, 36]⟩ : ByteArray)).bind fun t155 => (if 0 ≤ t155 then (if t155 ≤ (a0.size : Int) then (if (a0.extract 0 (t155 : Int).toNat).toList = ([46] : List UInt8) then (if t155 = (a0.size : Int) then (some (6, (⟨#[]⟩ : ByteArray), 0, 0, false, t155, 0)) else (if t155 < (a0.size : Int) then ((strings_IndexByte.f (⟨#[32, 9, 13, 10, 37]⟩ : ByteArray) (bt a0 t155)).bind fun t156 => (if t156 ≥ 0 then (some (6, (⟨#[]⟩ : ByteArray), 0, 0, false, t155, 0)) else (some (1, a0.extract 0 (t155 : Int).toNat, 0, 0, false, t155, 0)))) else (none))) else (some (1, a0.extract 0 (t155 : Int).toNat, 0, 0, false, t155, 0))) else (none)) else (none))) = some (r1, r2, r3, r4, r5, r6, r7) := h
  clear h
  replace H := Option.bind_eq_some_iff.mp H
  obtain ⟨t155, A20, H⟩ := H
  replace H : (if 0 ≤ t155 then (if t155 ≤ (a0.size : Int) then (if (a0.extract 0 (t155 : Int).toNat).toList = ([46] : List UInt8) then (if t155 = (a0.size : Int) then (some (6, (⟨#[]⟩ : ByteArray), 0, 0, false, t155, 0)) else (if t155 < (a0.size : Int) then ((strings_IndexByte.f (⟨#[32, 9, 13, 10, 37]⟩ : ByteArray) (bt a0 t155)).bind fun t156 => (if t156 ≥ 0 then (some (6, (⟨#[]⟩ : ByteArray), 0, 0, false, t155, 0)) else (some (1, a0.extract 0 (t155 : Int).toNat, 0, 0, false, t155, 0)))) else (none))) else (some (1, a0.extract 0 (t155 : Int).toNat, 0, 0, false, t155, 0))) else (none)) else (none)) = some (r1, r2, r3, r4, r5, r6, r7) := H
  have A2 := Aside0.mk A20
  clear A20
  by_cases c3 : 0 ≤ t155
  · rw [if_pos c3] at H
    have c3b0 := eq_true c3
    have c3b1 : decide (0 ≤ t155) = true := decide_eq_true c3
    clear c3
    by_cases c4 : t155 ≤ (a0.size : Int)
    · rw [if_pos c4] at H
      have c4b0 := eq_true c4
      have c4b1 : decide (t155 ≤ (a0.size : Int)) = true := decide_eq_true c4
      clear c4
      by_cases c5 : (a0.extract 0 (t155 : Int).toNat).toList = ([46] : List UInt8)
      · rw [if_pos c5] at H
        have c5b0 : ((a0.extract 0 (t155 : Int).toNat).toList == ([46] : List UInt8)) = true := beq_iff_eq.mpr c5
        have c5b1 : ((a0.extract 0 (t155 : Int).toNat).toList != ([46] : List UInt8)) = false := bne_eq_false_iff_eq.mpr c5
        clear c5
        by_cases c6 : t155 = (a0.size : Int)
        · rw [if_pos c6] at H
          have c6b0 : (t155 == (a0.size : Int)) = true := beq_iff_eq.mpr c6
          have c6b1 : (t155 != (a0.size : Int)) = false := bne_eq_false_iff_eq.mpr c6
          clear c6
          simp only [Option.some.injEq, Prod.mk.injEq] at H
          obtain ⟨rfl, rfl, rfl, rfl, rfl, rfl, rfl⟩ := H
          go_enter Tryz.func49, Tryz.ntmps49
          go_wp2_with (first | ((with_reducible refine gate_dst (N := 2) rfl ?_); (try (refine gate_guard (by rfl) ?_; dsimp only)); refine box_event ?hg (N := 2) ?hd (cs := #[.int .u8 0, .string (⟨#[]⟩ : ByteArray), .int .i64 0, .int .i64 0, .bool false]) (t := 62) ?hr ?_; (case hd => rfl); (case hg => rfl); (case hr => first | (go_simp; done) | (go_simp; rfl)); intro gb154 hg w7 hbox hb; have n0_ := Aside0.mk (below_step (by repeat (first | (with_reducible first | exact HB.out | apply below_alloc | apply pw_below_drewN | apply below_drew1) | exact HB.out)) hb); have n1_ := Aside0.mk (hbox); have n2_ := Aside0.mk ((by rw [hg]; exact (below_size (by repeat (first | (with_reducible first | exact HB.out | apply below_alloc | apply pw_below_drewN | apply below_drew1) | exact HB.out))) : w.heap.size ≤ gb154)); have n3_ := Aside0.mk ((by rw [hg]; exact (below_size (by repeat (first | (with_reducible first | exact HB.out | apply below_alloc | apply pw_below_drewN | apply below_drew1) | exact HB.out))) : w.heap.size ≤ gb154)); clear HB; have HB := n0_; have BK154 := n1_; have GW154 := n2_; have GE154 := n3_; clear n0_ n1_ n2_ n3_; clear hb hbox hg) | ((with_reducible refine gate_callee (f := 43) rfl ?_); refine goesL_ (some 7) rfl rfl Tryz.func43 (by kernel_rfl) rfl #[.string a0, .string (⟨#[43, 45, 42, 47, 92, 94, 60, 62, 61, 126, 58, 46, 63, 64, 35, 38, 36]⟩ : ByteArray)] rfl (by (try simp only [List.map_toArray, List.map_cons, List.map_nil]); first | done | rfl | (simp only [List.length_drop, List.length_take]; rfl) | (simp only [Go.Proofs.YtecjdjdfikcliaaGreatDoor.ba_from_size]; rfl)) ?_; (with_reducible refine (lex_run.calls a0 (⟨#[43, 45, 42, 47, 92, 94, 60, 62, 61, 126, 58, 46, 63, 64, 35, 38, 36]⟩ : ByteArray) t155 _ A2.out).mono ?_); rintro e w8 ⟨rfl, hb⟩; refine ⟨_, rfl, ?_⟩; have n0_ := Aside0.mk (blk_below (g := gb154) (o := .cells #[.int .u8 0, .string (⟨#[]⟩ : ByteArray), .int .i64 0, .int .i64 0, .bool false] 62 (0, 0)) (by (with_reducible repeat (first | refine blk_drewN ?_ _ | refine blk_drew ?_ | refine blk_alloc ?_ _)); exact BK154.out) hb); have n1_ := Aside0.mk (below_step (by repeat (first | (with_reducible first | exact HB.out | apply below_alloc | apply pw_below_drewN | apply below_drew1 | refine below_set ?_ GE154.out) | exact HB.out)) hb); clear BK154; clear HB; have BK154 := n0_; have HB := n1_; clear n0_ n1_; (try clear hb); (try clear hb2); (try clear hk); (try clear hi); have hcz9_0 : w8.cell? ⟨gb154, 0, none⟩ = some (.int .u8 0) := (blk_cell BK154.out 0).trans rfl; have hcz9_1 : w8.cell? ⟨gb154, 1, none⟩ = some (.string (⟨#[]⟩ : ByteArray)) := (blk_cell BK154.out 1).trans rfl; have hcz9_2 : w8.cell? ⟨gb154, 2, none⟩ = some (.int .i64 0) := (blk_cell BK154.out 2).trans rfl; have hcz9_3 : w8.cell? ⟨gb154, 3, none⟩ = some (.int .i64 0) := (blk_cell BK154.out 3).trans rfl; have hcz9_4 : w8.cell? ⟨gb154, 4, none⟩ = some (.bool false) := (blk_cell BK154.out 4).trans rfl; have hfz9_0 := blk_frozen BK154.out 0; have hfz9_1 := blk_frozen BK154.out 1; have hfz9_2 := blk_frozen BK154.out 2; have hfz9_3 := blk_frozen BK154.out 3; have hfz9_4 := blk_frozen BK154.out 4))
          refine bodyPost_ret (results_ctt rfl _ _ gb154 62 #[.int .u8 6, .string (⟨#[]⟩ : ByteArray), .int .i64 0, .int .i64 0, .bool false] (0, 0) _ rfl (by (with_reducible repeat (first | refine blk_drewN ?_ _ | refine blk_drew ?_ | refine blk_alloc ?_ _)); refine blk_put (cs := #[.int .u8 6, .string (⟨#[]⟩ : ByteArray), .int .i64 0, .int .i64 0, .bool false]) ?_ 4 _ rfl; (with_reducible repeat (first | refine blk_drewN ?_ _ | refine blk_drew ?_ | refine blk_alloc ?_ _)); refine blk_put (cs := #[.int .u8 6, .string (⟨#[]⟩ : ByteArray), .int .i64 0, .int .i64 0, .bool false]) ?_ 3 _ rfl; (with_reducible repeat (first | refine blk_drewN ?_ _ | refine blk_drew ?_ | refine blk_alloc ?_ _)); refine blk_put (cs := #[.int .u8 6, .string (⟨#[]⟩ : ByteArray), .int .i64 0, .int .i64 0, .bool false]) ?_ 2 _ rfl; (with_reducible repeat (first | refine blk_drewN ?_ _ | refine blk_drew ?_ | refine blk_alloc ?_ _)); refine blk_put (cs := #[.int .u8 6, .string (⟨#[]⟩ : ByteArray), .int .i64 0, .int .i64 0, .bool false]) ?_ 1 _ rfl; (with_reducible repeat (first | refine blk_drewN ?_ _ | refine blk_drew ?_ | refine blk_alloc ?_ _)); refine blk_put (cs := #[.int .u8 0, .string (⟨#[]⟩ : ByteArray), .int .i64 0, .int .i64 0, .bool false]) ?_ 0 _ rfl; (with_reducible repeat (first | refine blk_drewN ?_ _ | refine blk_drew ?_ | refine blk_alloc ?_ _)); exact BK154.out) Tryz.underlying62 rfl (by kernel_rfl)) rfl ?_
          exact ⟨by first | rfl | (simp [errW_none, errW_some] <;> rfl) | (simp [*, errW_none, errW_some] <;> rfl), by repeat (first | (with_reducible first | exact HB.out | apply below_alloc | apply pw_below_drewN | apply below_drew1 | refine below_set ?_ GE154.out) | exact HB.out)⟩
        · rw [if_neg c6] at H
          have c6b0 : (t155 == (a0.size : Int)) = false := beq_eq_false_iff_ne.mpr c6
          have c6b1 : (t155 != (a0.size : Int)) = true := bne_iff_ne.mpr c6
          by_cases c10 : t155 < (a0.size : Int)
          · rw [if_pos c10] at H
            have c10b0 : decide (t155 < (a0.size : Int)) = true := decide_eq_true c10
            clear c10
            replace H := Option.bind_eq_some_iff.mp H
            obtain ⟨t156, A120, H⟩ := H
            replace H : (if t156 ≥ 0 then (some (6, (⟨#[]⟩ : ByteArray), 0, 0, false, t155, 0)) else (some (1, a0.extract 0 (t155 : Int).toNat, 0, 0, false, t155, 0))) = some (r1, r2, r3, r4, r5, r6, r7) := H
            have A12 := Aside0.mk A120
            clear A120
            by_cases c13 : t156 ≥ 0
            · rw [if_pos c13] at H
              have c13b0 : decide (0 ≤ t156) = true := decide_eq_true c13
              clear c13
              simp only [Option.some.injEq, Prod.mk.injEq] at H
              obtain ⟨rfl, rfl, rfl, rfl, rfl, rfl, rfl⟩ := H
              go_enter Tryz.func49, Tryz.ntmps49
              go_wp2_with (first | ((with_reducible refine gate_dst (N := 2) rfl ?_); (try (refine gate_guard (by rfl) ?_; dsimp only)); refine box_event ?hg (N := 2) ?hd (cs := #[.int .u8 0, .string (⟨#[]⟩ : ByteArray), .int .i64 0, .int .i64 0, .bool false]) (t := 62) ?hr ?_; (case hd => rfl); (case hg => rfl); (case hr => first | (go_simp; done) | (go_simp; rfl)); intro gb154 hg w14 hbox hb; have n0_ := Aside0.mk (below_step (by repeat (first | (with_reducible first | exact HB.out | apply below_alloc | apply pw_below_drewN | apply below_drew1) | exact HB.out)) hb); have n1_ := Aside0.mk (hbox); have n2_ := Aside0.mk ((by rw [hg]; exact (below_size (by repeat (first | (with_reducible first | exact HB.out | apply below_alloc | apply pw_below_drewN | apply below_drew1) | exact HB.out))) : w.heap.size ≤ gb154)); have n3_ := Aside0.mk ((by rw [hg]; exact (below_size (by repeat (first | (with_reducible first | exact HB.out | apply below_alloc | apply pw_below_drewN | apply below_drew1) | exact HB.out))) : w.heap.size ≤ gb154)); clear HB; have HB := n0_; have BK154 := n1_; have GW154 := n2_; have GE154 := n3_; clear n0_ n1_ n2_ n3_; clear hb hbox hg) | ((with_reducible refine gate_callee (f := 43) rfl ?_); refine goesL_ (some 7) rfl rfl Tryz.func43 (by kernel_rfl) rfl #[.string a0, .string (⟨#[43, 45, 42, 47, 92, 94, 60, 62, 61, 126, 58, 46, 63, 64, 35, 38, 36]⟩ : ByteArray)] rfl (by (try simp only [List.map_toArray, List.map_cons, List.map_nil]); first | done | rfl | (simp only [List.length_drop, List.length_take]; rfl) | (simp only [Go.Proofs.YtecjdjdfikcliaaGreatDoor.ba_from_size]; rfl)) ?_; (with_reducible refine (lex_run.calls a0 (⟨#[43, 45, 42, 47, 92, 94, 60, 62, 61, 126, 58, 46, 63, 64, 35, 38, 36]⟩ : ByteArray) t155 _ A2.out).mono ?_); rintro e w15 ⟨rfl, hb⟩; refine ⟨_, rfl, ?_⟩; have n0_ := Aside0.mk (blk_below (g := gb154) (o := .cells #[.int .u8 0, .string (⟨#[]⟩ : ByteArray), .int .i64 0, .int .i64 0, .bool false] 62 (0, 0)) (by (with_reducible repeat (first | refine blk_drewN ?_ _ | refine blk_drew ?_ | refine blk_alloc ?_ _)); exact BK154.out) hb); have n1_ := Aside0.mk (below_step (by repeat (first | (with_reducible first | exact HB.out | apply below_alloc | apply pw_below_drewN | apply below_drew1 | refine below_set ?_ GE154.out) | exact HB.out)) hb); clear BK154; clear HB; have BK154 := n0_; have HB := n1_; clear n0_ n1_; (try clear hb); (try clear hb2); (try clear hk); (try clear hi); have p11 : 0 ≤ (t155 : Int) := of_decide_eq_true (by first | (with_reducible assumption) | assumption); have q11 : t155 < (a0.size : Int) := of_decide_eq_true (by first | (with_reducible assumption) | assumption); have hx11 := bt_at a0 t155; replace p11 := eq_true p11; replace q11 := eq_true q11) | (go_at_call 33; (with_reducible refine (strings_IndexByte.calls (⟨#[32, 9, 13, 10, 37]⟩ : ByteArray) (bt a0 t155) t156 _ A12.out).mono ?_); rintro e w' ⟨rfl, ⟨nd, rfl⟩⟩; (try (rw [drewN_self w15]; generalize hq_ : World.drewN w15 _ = w15; have n0_ : Aside0 (w15.heap[gb154]? = some (.cells #[.int .u8 0, .string (⟨#[]⟩ : ByteArray), .int .i64 0, .int .i64 0, .bool false] 62 (0, 0))) := ⟨by rw [← hq_]; exact (by (with_reducible repeat (first | refine blk_drewN ?_ _ | refine blk_drew ?_ | refine blk_alloc ?_ _)); exact BK154.out)⟩; have n1_ : Aside0 (Below w.heap.size w w15) := ⟨by rw [← hq_]; exact (by repeat (first | (with_reducible first | exact HB.out | apply below_alloc | apply pw_below_drewN | apply below_drew1 | refine below_set ?_ GE154.out) | exact HB.out))⟩; clear BK154 HB hq_; have BK154 := n0_; have HB := n1_; clear n0_ n1_)); have hcz16_0 : w15.cell? ⟨gb154, 0, none⟩ = some (.int .u8 0) := (blk_cell BK154.out 0).trans rfl; have hcz16_1 : w15.cell? ⟨gb154, 1, none⟩ = some (.string (⟨#[]⟩ : ByteArray)) := (blk_cell BK154.out 1).trans rfl; have hcz16_2 : w15.cell? ⟨gb154, 2, none⟩ = some (.int .i64 0) := (blk_cell BK154.out 2).trans rfl; have hcz16_3 : w15.cell? ⟨gb154, 3, none⟩ = some (.int .i64 0) := (blk_cell BK154.out 3).trans rfl; have hcz16_4 : w15.cell? ⟨gb154, 4, none⟩ = some (.bool false) := (blk_cell BK154.out 4).trans rfl; have hfz16_0 := blk_frozen BK154.out 0; have hfz16_1 := blk_frozen BK154.out 1; have hfz16_2 := blk_frozen BK154.out 2; have hfz16_3 := blk_frozen BK154.out 3; have hfz16_4 := blk_frozen BK154.out 4))
              refine bodyPost_ret (results_ctt rfl _ _ gb154 62 #[.int .u8 6, .string (⟨#[]⟩ : ByteArray), .int .i64 0, .int .i64 0, .bool false] (0, 0) _ rfl (by (with_reducible repeat (first | refine blk_drewN ?_ _ | refine blk_drew ?_ | refine blk_alloc ?_ _)); refine blk_put (cs := #[.int .u8 6, .string (⟨#[]⟩ : ByteArray), .int .i64 0, .int .i64 0, .bool false]) ?_ 4 _ rfl; (with_reducible repeat (first | refine blk_drewN ?_ _ | refine blk_drew ?_ | refine blk_alloc ?_ _)); refine blk_put (cs := #[.int .u8 6, .string (⟨#[]⟩ : ByteArray), .int .i64 0, .int .i64 0, .bool false]) ?_ 3 _ rfl; (with_reducible repeat (first | refine blk_drewN ?_ _ | refine blk_drew ?_ | refine blk_alloc ?_ _)); refine blk_put (cs := #[.int .u8 6, .string (⟨#[]⟩ : ByteArray), .int .i64 0, .int .i64 0, .bool false]) ?_ 2 _ rfl; (with_reducible repeat (first | refine blk_drewN ?_ _ | refine blk_drew ?_ | refine blk_alloc ?_ _)); refine blk_put (cs := #[.int .u8 6, .string (⟨#[]⟩ : ByteArray), .int .i64 0, .int .i64 0, .bool false]) ?_ 1 _ rfl; (with_reducible repeat (first | refine blk_drewN ?_ _ | refine blk_drew ?_ | refine blk_alloc ?_ _)); refine blk_put (cs := #[.int .u8 0, .string (⟨#[]⟩ : ByteArray), .int .i64 0, .int .i64 0, .bool false]) ?_ 0 _ rfl; (with_reducible repeat (first | refine blk_drewN ?_ _ | refine blk_drew ?_ | refine blk_alloc ?_ _)); exact BK154.out) Tryz.underlying62 rfl (by kernel_rfl)) rfl ?_
              exact ⟨by first | rfl | (simp [errW_none, errW_some] <;> rfl) | (simp [*, errW_none, errW_some] <;> rfl), by repeat (first | (with_reducible first | exact HB.out | apply below_alloc | apply pw_below_drewN | apply below_drew1 | refine below_set ?_ GE154.out) | exact HB.out)⟩
            · rw [if_neg c13] at H
              have c13b0 : decide (0 ≤ t156) = false := decide_eq_false c13
              clear c13
              have c17b0 := eq_true (of_decide_eq_true (by first | (with_reducible assumption) | assumption) : 0 ≤ t155)
              have c18b0 := eq_true (of_decide_eq_true (by first | (with_reducible assumption) | assumption) : t155 ≤ (a0.size : Int))
              simp only [Option.some.injEq, Prod.mk.injEq] at H
              obtain ⟨rfl, rfl, rfl, rfl, rfl, rfl, rfl⟩ := H
              go_enter Tryz.func49, Tryz.ntmps49
              go_wp2_with (first | ((with_reducible refine gate_dst (N := 2) rfl ?_); (try (refine gate_guard (by rfl) ?_; dsimp only)); refine box_event ?hg (N := 2) ?hd (cs := #[.int .u8 0, .string (⟨#[]⟩ : ByteArray), .int .i64 0, .int .i64 0, .bool false]) (t := 62) ?hr ?_; (case hd => rfl); (case hg => rfl); (case hr => first | (go_simp; done) | (go_simp; rfl)); intro gb154 hg w19 hbox hb; have n0_ := Aside0.mk (below_step (by repeat (first | (with_reducible first | exact HB.out | apply below_alloc | apply pw_below_drewN | apply below_drew1) | exact HB.out)) hb); have n1_ := Aside0.mk (hbox); have n2_ := Aside0.mk ((by rw [hg]; exact (below_size (by repeat (first | (with_reducible first | exact HB.out | apply below_alloc | apply pw_below_drewN | apply below_drew1) | exact HB.out))) : w.heap.size ≤ gb154)); have n3_ := Aside0.mk ((by rw [hg]; exact (below_size (by repeat (first | (with_reducible first | exact HB.out | apply below_alloc | apply pw_below_drewN | apply below_drew1) | exact HB.out))) : w.heap.size ≤ gb154)); clear HB; have HB := n0_; have BK154 := n1_; have GW154 := n2_; have GE154 := n3_; clear n0_ n1_ n2_ n3_; clear hb hbox hg) | ((with_reducible refine gate_callee (f := 43) rfl ?_); refine goesL_ (some 7) rfl rfl Tryz.func43 (by kernel_rfl) rfl #[.string a0, .string (⟨#[43, 45, 42, 47, 92, 94, 60, 62, 61, 126, 58, 46, 63, 64, 35, 38, 36]⟩ : ByteArray)] rfl (by (try simp only [List.map_toArray, List.map_cons, List.map_nil]); first | done | rfl | (simp only [List.length_drop, List.length_take]; rfl) | (simp only [Go.Proofs.YtecjdjdfikcliaaGreatDoor.ba_from_size]; rfl)) ?_; (with_reducible refine (lex_run.calls a0 (⟨#[43, 45, 42, 47, 92, 94, 60, 62, 61, 126, 58, 46, 63, 64, 35, 38, 36]⟩ : ByteArray) t155 _ A2.out).mono ?_); rintro e w20 ⟨rfl, hb⟩; refine ⟨_, rfl, ?_⟩; have n0_ := Aside0.mk (blk_below (g := gb154) (o := .cells #[.int .u8 0, .string (⟨#[]⟩ : ByteArray), .int .i64 0, .int .i64 0, .bool false] 62 (0, 0)) (by (with_reducible repeat (first | refine blk_drewN ?_ _ | refine blk_drew ?_ | refine blk_alloc ?_ _)); exact BK154.out) hb); have n1_ := Aside0.mk (below_step (by repeat (first | (with_reducible first | exact HB.out | apply below_alloc | apply pw_below_drewN | apply below_drew1 | refine below_set ?_ GE154.out) | exact HB.out)) hb); clear BK154; clear HB; have BK154 := n0_; have HB := n1_; clear n0_ n1_; (try clear hb); (try clear hb2); (try clear hk); (try clear hi); have p11 : 0 ≤ (t155 : Int) := of_decide_eq_true (by first | (with_reducible assumption) | assumption); have q11 : t155 < (a0.size : Int) := of_decide_eq_true (by first | (with_reducible assumption) | assumption); have hx11 := bt_at a0 t155; replace p11 := eq_true p11; replace q11 := eq_true q11) | (go_at_call 33; (with_reducible refine (strings_IndexByte.calls (⟨#[32, 9, 13, 10, 37]⟩ : ByteArray) (bt a0 t155) t156 _ A12.out).mono ?_); rintro e w' ⟨rfl, ⟨nd, rfl⟩⟩; (try (rw [drewN_self w20]; generalize hq_ : World.drewN w20 _ = w20; have n0_ : Aside0 (w20.heap[gb154]? = some (.cells #[.int .u8 0, .string (⟨#[]⟩ : ByteArray), .int .i64 0, .int .i64 0, .bool false] 62 (0, 0))) := ⟨by rw [← hq_]; exact (by (with_reducible repeat (first | refine blk_drewN ?_ _ | refine blk_drew ?_ | refine blk_alloc ?_ _)); exact BK154.out)⟩; have n1_ : Aside0 (Below w.heap.size w w20) := ⟨by rw [← hq_]; exact (by repeat (first | (with_reducible first | exact HB.out | apply below_alloc | apply pw_below_drewN | apply below_drew1 | refine below_set ?_ GE154.out) | exact HB.out))⟩; clear BK154 HB hq_; have BK154 := n0_; have HB := n1_; clear n0_ n1_)); have hcz21_0 : w20.cell? ⟨gb154, 0, none⟩ = some (.int .u8 0) := (blk_cell BK154.out 0).trans rfl; have hcz21_1 : w20.cell? ⟨gb154, 1, none⟩ = some (.string (⟨#[]⟩ : ByteArray)) := (blk_cell BK154.out 1).trans rfl; have hcz21_2 : w20.cell? ⟨gb154, 2, none⟩ = some (.int .i64 0) := (blk_cell BK154.out 2).trans rfl; have hcz21_3 : w20.cell? ⟨gb154, 3, none⟩ = some (.int .i64 0) := (blk_cell BK154.out 3).trans rfl; have hcz21_4 : w20.cell? ⟨gb154, 4, none⟩ = some (.bool false) := (blk_cell BK154.out 4).trans rfl; have hfz21_0 := blk_frozen BK154.out 0; have hfz21_1 := blk_frozen BK154.out 1; have hfz21_2 := blk_frozen BK154.out 2; have hfz21_3 := blk_frozen BK154.out 3; have hfz21_4 := blk_frozen BK154.out 4))
              refine bodyPost_ret (results_ctt rfl _ _ gb154 62 #[.int .u8 1, .string (a0.extract 0 (t155 : Int).toNat), .int .i64 0, .int .i64 0, .bool false] (0, 0) _ rfl (by (with_reducible repeat (first | refine blk_drewN ?_ _ | refine blk_drew ?_ | refine blk_alloc ?_ _)); refine blk_put (cs := #[.int .u8 1, .string (a0.extract 0 (t155 : Int).toNat), .int .i64 0, .int .i64 0, .bool false]) ?_ 4 _ rfl; (with_reducible repeat (first | refine blk_drewN ?_ _ | refine blk_drew ?_ | refine blk_alloc ?_ _)); refine blk_put (cs := #[.int .u8 1, .string (a0.extract 0 (t155 : Int).toNat), .int .i64 0, .int .i64 0, .bool false]) ?_ 3 _ rfl; (with_reducible repeat (first | refine blk_drewN ?_ _ | refine blk_drew ?_ | refine blk_alloc ?_ _)); refine blk_put (cs := #[.int .u8 1, .string (a0.extract 0 (t155 : Int).toNat), .int .i64 0, .int .i64 0, .bool false]) ?_ 2 _ rfl; (with_reducible repeat (first | refine blk_drewN ?_ _ | refine blk_drew ?_ | refine blk_alloc ?_ _)); refine blk_put (cs := #[.int .u8 1, .string (⟨#[]⟩ : ByteArray), .int .i64 0, .int .i64 0, .bool false]) ?_ 1 _ rfl; (with_reducible repeat (first | refine blk_drewN ?_ _ | refine blk_drew ?_ | refine blk_alloc ?_ _)); refine blk_put (cs := #[.int .u8 0, .string (⟨#[]⟩ : ByteArray), .int .i64 0, .int .i64 0, .bool false]) ?_ 0 _ rfl; (with_reducible repeat (first | refine blk_drewN ?_ _ | refine blk_drew ?_ | refine blk_alloc ?_ _)); exact BK154.out) Tryz.underlying62 rfl (by kernel_rfl)) rfl ?_
              exact ⟨by first | rfl | (simp [errW_none, errW_some] <;> rfl) | (simp [*, errW_none, errW_some] <;> rfl), by repeat (first | (with_reducible first | exact HB.out | apply below_alloc | apply pw_below_drewN | apply below_drew1 | refine below_set ?_ GE154.out) | exact HB.out)⟩
          · rw [if_neg c10] at H
            exact absurd H (by simp)
      · rw [if_neg c5] at H
        have c5b0 : ((a0.extract 0 (t155 : Int).toNat).toList == ([46] : List UInt8)) = false := beq_eq_false_iff_ne.mpr c5
        have c5b1 : ((a0.extract 0 (t155 : Int).toNat).toList != ([46] : List UInt8)) = true := bne_iff_ne.mpr c5
        have c22b0 := eq_true (of_decide_eq_true (by first | (with_reducible assumption) | assumption) : 0 ≤ t155)
        have c23b0 := eq_true (of_decide_eq_true (by first | (with_reducible assumption) | assumption) : t155 ≤ (a0.size : Int))
        simp only [Option.some.injEq, Prod.mk.injEq] at H
        obtain ⟨rfl, rfl, rfl, rfl, rfl, rfl, rfl⟩ := H
        go_enter Tryz.func49, Tryz.ntmps49
        go_wp2_with (first | ((with_reducible refine gate_dst (N := 2) rfl ?_); (try (refine gate_guard (by rfl) ?_; dsimp only)); refine box_event ?hg (N := 2) ?hd (cs := #[.int .u8 0, .string (⟨#[]⟩ : ByteArray), .int .i64 0, .int .i64 0, .bool false]) (t := 62) ?hr ?_; (case hd => rfl); (case hg => rfl); (case hr => first | (go_simp; done) | (go_simp; rfl)); intro gb154 hg w24 hbox hb; have n0_ := Aside0.mk (below_step (by repeat (first | (with_reducible first | exact HB.out | apply below_alloc | apply pw_below_drewN | apply below_drew1) | exact HB.out)) hb); have n1_ := Aside0.mk (hbox); have n2_ := Aside0.mk ((by rw [hg]; exact (below_size (by repeat (first | (with_reducible first | exact HB.out | apply below_alloc | apply pw_below_drewN | apply below_drew1) | exact HB.out))) : w.heap.size ≤ gb154)); have n3_ := Aside0.mk ((by rw [hg]; exact (below_size (by repeat (first | (with_reducible first | exact HB.out | apply below_alloc | apply pw_below_drewN | apply below_drew1) | exact HB.out))) : w.heap.size ≤ gb154)); clear HB; have HB := n0_; have BK154 := n1_; have GW154 := n2_; have GE154 := n3_; clear n0_ n1_ n2_ n3_; clear hb hbox hg) | ((with_reducible refine gate_callee (f := 43) rfl ?_); refine goesL_ (some 7) rfl rfl Tryz.func43 (by kernel_rfl) rfl #[.string a0, .string (⟨#[43, 45, 42, 47, 92, 94, 60, 62, 61, 126, 58, 46, 63, 64, 35, 38, 36]⟩ : ByteArray)] rfl (by (try simp only [List.map_toArray, List.map_cons, List.map_nil]); first | done | rfl | (simp only [List.length_drop, List.length_take]; rfl) | (simp only [Go.Proofs.YtecjdjdfikcliaaGreatDoor.ba_from_size]; rfl)) ?_; (with_reducible refine (lex_run.calls a0 (⟨#[43, 45, 42, 47, 92, 94, 60, 62, 61, 126, 58, 46, 63, 64, 35, 38, 36]⟩ : ByteArray) t155 _ A2.out).mono ?_); rintro e w25 ⟨rfl, hb⟩; refine ⟨_, rfl, ?_⟩; have n0_ := Aside0.mk (blk_below (g := gb154) (o := .cells #[.int .u8 0, .string (⟨#[]⟩ : ByteArray), .int .i64 0, .int .i64 0, .bool false] 62 (0, 0)) (by (with_reducible repeat (first | refine blk_drewN ?_ _ | refine blk_drew ?_ | refine blk_alloc ?_ _)); exact BK154.out) hb); have n1_ := Aside0.mk (below_step (by repeat (first | (with_reducible first | exact HB.out | apply below_alloc | apply pw_below_drewN | apply below_drew1 | refine below_set ?_ GE154.out) | exact HB.out)) hb); clear BK154; clear HB; have BK154 := n0_; have HB := n1_; clear n0_ n1_; (try clear hb); (try clear hb2); (try clear hk); (try clear hi); have hcz26_0 : w25.cell? ⟨gb154, 0, none⟩ = some (.int .u8 0) := (blk_cell BK154.out 0).trans rfl; have hcz26_1 : w25.cell? ⟨gb154, 1, none⟩ = some (.string (⟨#[]⟩ : ByteArray)) := (blk_cell BK154.out 1).trans rfl; have hcz26_2 : w25.cell? ⟨gb154, 2, none⟩ = some (.int .i64 0) := (blk_cell BK154.out 2).trans rfl; have hcz26_3 : w25.cell? ⟨gb154, 3, none⟩ = some (.int .i64 0) := (blk_cell BK154.out 3).trans rfl; have hcz26_4 : w25.cell? ⟨gb154, 4, none⟩ = some (.bool false) := (blk_cell BK154.out 4).trans rfl; have hfz26_0 := blk_frozen BK154.out 0; have hfz26_1 := blk_frozen BK154.out 1; have hfz26_2 := blk_frozen BK154.out 2; have hfz26_3 := blk_frozen BK154.out 3; have hfz26_4 := blk_frozen BK154.out 4))
        refine bodyPost_ret (results_ctt rfl _ _ gb154 62 #[.int .u8 1, .string (a0.extract 0 (t155 : Int).toNat), .int .i64 0, .int .i64 0, .bool false] (0, 0) _ rfl (by (with_reducible repeat (first | refine blk_drewN ?_ _ | refine blk_drew ?_ | refine blk_alloc ?_ _)); refine blk_put (cs := #[.int .u8 1, .string (a0.extract 0 (t155 : Int).toNat), .int .i64 0, .int .i64 0, .bool false]) ?_ 4 _ rfl; (with_reducible repeat (first | refine blk_drewN ?_ _ | refine blk_drew ?_ | refine blk_alloc ?_ _)); refine blk_put (cs := #[.int .u8 1, .string (a0.extract 0 (t155 : Int).toNat), .int .i64 0, .int .i64 0, .bool false]) ?_ 3 _ rfl; (with_reducible repeat (first | refine blk_drewN ?_ _ | refine blk_drew ?_ | refine blk_alloc ?_ _)); refine blk_put (cs := #[.int .u8 1, .string (a0.extract 0 (t155 : Int).toNat), .int .i64 0, .int .i64 0, .bool false]) ?_ 2 _ rfl; (with_reducible repeat (first | refine blk_drewN ?_ _ | refine blk_drew ?_ | refine blk_alloc ?_ _)); refine blk_put (cs := #[.int .u8 1, .string (⟨#[]⟩ : ByteArray), .int .i64 0, .int .i64 0, .bool false]) ?_ 1 _ rfl; (with_reducible repeat (first | refine blk_drewN ?_ _ | refine blk_drew ?_ | refine blk_alloc ?_ _)); refine blk_put (cs := #[.int .u8 0, .string (⟨#[]⟩ : ByteArray), .int .i64 0, .int .i64 0, .bool false]) ?_ 0 _ rfl; (with_reducible repeat (first | refine blk_drewN ?_ _ | refine blk_drew ?_ | refine blk_alloc ?_ _)); exact BK154.out) Tryz.underlying62 rfl (by kernel_rfl)) rfl ?_
        exact ⟨by first | rfl | (simp [errW_none, errW_some] <;> rfl) | (simp [*, errW_none, errW_some] <;> rfl), by repeat (first | (with_reducible first | exact HB.out | apply below_alloc | apply pw_below_drewN | apply below_drew1 | refine below_set ?_ GE154.out) | exact HB.out)⟩
    · rw [if_neg c4] at H
      exact absurd H (by simp)
  · rw [if_neg c3] at H
    exact absurd H (by simp)

end Go.Proofs.YtecjdjdfikcliaaGreatDoor.P
end
section
/-
  What each rule's function tells is the document's token, in the plain form.
-/
namespace Go.Proofs.YtecjdjdfikcliaaGreatDoor
open Go.RowKit Go.Proofs.YtecjdjdfikcliaaGreatDoorW.PrintWords

def TakeRel (l : List UInt8) (k : Int) (t : ByteArray) (m len e1 : Int) : Prop :=
  (e1 = 0 ∧ ∃ (kn ln : Nat), k = kn ∧ len = ln ∧ ln ≤ l.length ∧ Lx.take l = .ok (kn, bl t, m, l.drop ln)) ∨ (e1 = 10 ∧ Lx.take l = .error 10)

def RPost (l : List UInt8) (w : World) (e : Ending) (w' : World) : Prop :=
  ∃ k t m len e1, TPost k t m len e1 w e w' ∧ TakeRel l k t m len e1

theorem head_take {α : Type} (p : α → Bool) (l : List α) : (l.takeWhile p).length ≤ l.length := by
  have := Lx.dropWhile_len p l
  omega

theorem call_of (k : Nat) (str : ByteArray) (W : World) (ps pk : Addr) (hs : str.size ≤ 8192)
    (h1 : W.cell? ps = some (.string setLetter)) (h2 : W.cell? pk = some (.int .u8 k))
    (ht : Lx.take (bl str) = .ok (k, (bl str).takeWhile Lx.letterB, 0, (bl str).dropWhile Lx.letterB)) :
    Calls Tryz.prog 66 #[.string str, .pointer (some ps), .pointer (some pk)] W (RPost (bl str) W) := by
  refine (of_walk str setLetter k ps pk W ascii_letter (by omega) h1 h2).mono ?_
  intro e w' h
  refine ⟨_, _, _, _, _, h, .inl ⟨rfl, k, headLen setLetter str, rfl, rfl, ?_, ?_⟩⟩
  · rw [headLen_letter]; exact head_take _ _
  · rw [ht, bl_extract, List.drop_zero, headLen_letter, take_takeWhile, drop_takeWhile]

theorem call_one (k : Nat) (str : ByteArray) (W : World) (pk : Addr) (c : UInt8) (r : List UInt8) (hl : bl str = c :: r)
    (h2 : W.cell? pk = some (.int .u8 k)) (ht : Lx.take (bl str) = .ok (k, [c], 0, r)) :
    Calls Tryz.prog 68 #[.string str, .pointer (some pk)] W (RPost (bl str) W) := by
  have hs : 1 ≤ str.size := by
    have := congrArg List.length hl
    rw [bl_length] at this
    simp at this
    omega
  refine (one_walk str k pk W hs h2).mono ?_
  intro e w' h
  refine ⟨_, _, _, _, _, h, .inl ⟨rfl, k, 1, rfl, rfl, ?_, ?_⟩⟩
  · rw [hl]; simp
  · rw [ht, bl_extract, hl]; simp

theorem bl_mk (l : List UInt8) : bl ⟨l.toArray⟩ = l := by simp [bl]

theorem call_quote (str : ByteArray) (W : World) (r : List UInt8) (hl : bl str = 39 :: r) (hs : str.size ≤ 8192) :
    Calls Tryz.prog 50 #[.string str] W (RPost (bl str) W) := by
  have ht : Lx.take (39 :: r) = (match Lx.quotedM [] r with | some (t, rest) => .ok (2, t, 0, rest) | none => .error 10) := by
    simp only [Lx.take]
    rw [if_neg (by decide), if_neg (by decide), if_neg (by decide), if_neg (by decide), if_neg (by decide), if_neg (by decide), if_pos trivial]
    cases Lx.quotedM [] r <;> rfl
  have hd : (bl str).drop 1 = r := by rw [hl]; rfl
  have hlen : r.length + 1 = str.size := by rw [← bl_length, hl]; simp
  cases hq : Lx.quotedM [] r with
  | none =>
    have hf : lex_quoted.f str = some (⟨#[]⟩, 0, 10) := by
      unfold lex_quoted.f
      rw [if_pos (by omega), hd, hq]
    refine (quote_walk str W _ _ _ hf).mono ?_
    intro e w' h
    refine ⟨2, ⟨#[]⟩, 0, 0, 10, h, Or.inr ⟨rfl, ?_⟩⟩
    rw [hl, ht, hq]
  | some x =>
    obtain ⟨t, rest⟩ := x
    have hf : lex_quoted.f str = some ((⟨t.toArray⟩ : ByteArray), ((str.size - rest.length : Nat) : Int), (0 : Int)) := by
      unfold lex_quoted.f
      rw [if_pos (by omega), hd, hq]
    refine (quote_walk str W _ _ _ hf).mono ?_
    intro e w' h
    have hsuf := Lx.quotedM_suffix r.length r [] t rest (Nat.le_refl _) hq
    have hsuf2 := hsuf.trans (List.suffix_cons 39 r)
    refine ⟨2, ⟨t.toArray⟩, 0, (str.size - rest.length : Nat), 0, h, Or.inl ⟨rfl, 2, str.size - rest.length, rfl, rfl, ?_, ?_⟩⟩
    · rw [bl_length]; omega
    · have e2 := Lx.suffix_drop hsuf2
      rw [hl, ht, hq, bl_mk]
      rw [List.length_cons, hlen] at e2
      simp only
      rw [← e2]

namespace Lx
theorem digitB_iff (c : UInt8) : digitB c = true ↔ 48 ≤ c.toNat ∧ c.toNat ≤ 57 := by
  unfold digitB
  simp only [List.contains_iff_mem, List.mem_cons, List.not_mem_nil, or_false, ← UInt8.toNat_inj]
  simp only [UInt8.reduceToNat]
  omega
def fold10 (n : Nat) (b : UInt8) : Nat := 10 * n + (b.toNat - 48)
theorem fold_ge : ∀ (l : List UInt8) (a : Nat), a ≤ l.foldl fold10 a
  | [], a => Nat.le_refl _
  | b :: l, a => by
    have := fold_ge l (fold10 a b)
    simp only [List.foldl_cons]
    unfold fold10 at this ⊢
    omega
theorem parseM (l : List UInt8) : ∀ acc : Nat, acc ≤ 18446744073709551615 →
    (match Lib.parseUintM 18446744073709551615 acc l with
      | .ok u => l.all digitB = true ∧ u = l.foldl fold10 acc ∧ u ≤ 18446744073709551615
      | _ => ¬ (l.all digitB = true ∧ l.foldl fold10 acc ≤ 18446744073709551615)) := by
  induction l with
  | nil => intro acc h; exact ⟨rfl, rfl, h⟩
  | cons c r ih =>
    intro acc h
    simp only [Lib.parseUintM]
    have hg := fold_ge r (fold10 acc c)
    have hf : (c :: r).foldl fold10 acc = r.foldl fold10 (fold10 acc c) := rfl
    rw [hf]
    have hx : fold10 acc c = acc * 10 + (c.toNat - 48) := by unfold fold10; omega
    by_cases hd : 48 ≤ c.toNat ∧ c.toNat ≤ 57
    · rw [if_pos hd]
      by_cases h1 : 1844674407370955162 ≤ acc
      · rw [if_pos h1]
        rintro ⟨_, h2⟩
        omega
      · rw [if_neg h1]
        by_cases h2 : 18446744073709551615 < acc * 10 + (c.toNat - 48)
        · rw [if_pos h2]
          rintro ⟨_, h3⟩
          omega
        · rw [if_neg h2, ← hx]
          have := ih (fold10 acc c) (by omega)
          have hc : digitB c = true := (digitB_iff c).2 hd
          simp only [List.all_cons, hc, Bool.true_and]
          exact this
    · rw [if_neg hd]
      rintro ⟨h1, _⟩
      simp only [List.all_cons, Bool.and_eq_true] at h1
      exact hd ((digitB_iff c).1 h1.1)
theorem value_fold (l : List UInt8) : value l = l.foldl fold10 0 := rfl
end Lx

theorem numOf_eq (c : UInt8) (r : List UInt8) (hd : Lx.digitB c = true) :
    numOf (c :: r) = if ((c :: r).takeWhile Lx.letterB).all Lx.digitB = true ∧ Lx.value ((c :: r).takeWhile Lx.letterB) < 9223372036854775808 then some (Lx.value ((c :: r).takeWhile Lx.letterB) : Int) else none := by
  unfold numOf
  have hl : Lx.letterB c = true := by unfold Lx.letterB; rw [hd]; simp
  have hw : (c :: r).takeWhile Lx.letterB = c :: r.takeWhile Lx.letterB := List.takeWhile_cons_of_pos hl
  rw [hw]
  generalize r.takeWhile Lx.letterB = w
  have h48 := (Lx.digitB_iff c).1 hd
  have hm := Lx.parseM (c :: w) 0 (by decide)
  have e : Lib.parseIntB 64 (c :: w) = match Lib.parseUintM 18446744073709551615 0 (c :: w) with
      | .range => .range
      | .ok u => if 9223372036854775808 ≤ u then .range else .ok (u : Int)
      | _ => Lib.parseIntB 64 [] := by
    unfold Lib.parseIntB
    simp only
    rw [if_neg (by omega)]
    have e2 : Lib.parseUintB 64 (c :: w) = Lib.parseUintM 18446744073709551615 0 (c :: w) := by
      unfold Lib.parseUintB
      rw [if_neg (by simp)]
    rw [e2]
    rcases Lib.parseUintM 18446744073709551615 0 (c :: w) with u | _ | _
    · have h45 : ¬ c.toNat = 45 := by omega
      simp only [h45, not_false_eq_true, true_and, false_and, if_false]
    · rfl
    · rfl
  rw [e]
  rw [Lx.value_fold]
  rcases hp : Lib.parseUintM 18446744073709551615 0 (c :: w) with u | _ | _
  · rw [hp] at hm
    simp only at hm ⊢
    obtain ⟨h1, rfl, h3⟩ := hm
    by_cases hb : 9223372036854775808 ≤ List.foldl Lx.fold10 0 (c :: w)
    · rw [if_pos hb, if_neg (fun h => by omega)]
    · rw [if_neg hb, if_pos ⟨h1, by omega⟩]
  · rw [hp] at hm
    simp only [Lib.parseIntB] at hm ⊢
    rw [if_neg (fun h => hm ⟨h.1, by omega⟩)]
  · rw [hp] at hm
    simp only at hm ⊢
    rw [if_neg (fun h => hm ⟨h.1, by omega⟩)]

theorem call_number (str : ByteArray) (W : World) (hL : LaidE W) (c : UInt8) (r : List UInt8) (hl : bl str = c :: r) (hd : Lx.digitB c = true) (hs : str.size ≤ 8192)
    (ht : Lx.take (c :: r) = if ((c :: r).takeWhile Lx.letterB).all Lx.digitB = true ∧ Lx.value ((c :: r).takeWhile Lx.letterB) < 9223372036854775808 then .ok (4, [], (Lx.value ((c :: r).takeWhile Lx.letterB) : Int), (c :: r).dropWhile Lx.letterB) else .error 10) :
    Calls Tryz.prog 47 #[.string str] W (RPost (bl str) W) := by
  refine (lex_number.walk str W hL (by omega)).mono ?_
  intro e w' ⟨h, hb⟩
  rw [hl, numOf_eq c r hd] at h
  by_cases hc : ((c :: r).takeWhile Lx.letterB).all Lx.digitB = true ∧ Lx.value ((c :: r).takeWhile Lx.letterB) < 9223372036854775808
  · rw [if_pos hc] at h ht
    refine ⟨4, ⟨#[]⟩, (Lx.value ((c :: r).takeWhile Lx.letterB) : Int), (((c :: r).takeWhile Lx.letterB).length : Nat), 0, ⟨h, hb⟩, Or.inl ⟨rfl, 4, _, rfl, rfl, ?_, ?_⟩⟩
    · rw [hl]; exact head_take _ _
    · rw [hl, ht, drop_takeWhile]
  · rw [if_neg hc] at h ht
    exact ⟨0, ⟨#[]⟩, 0, 0, 10, ⟨h, hb⟩, Or.inr ⟨rfl, by rw [hl, ht]⟩⟩
end Go.Proofs.YtecjdjdfikcliaaGreatDoor
end
section
/-
  The rule of symbols; and all seven in one.
-/
namespace Go.Proofs.YtecjdjdfikcliaaGreatDoor
open Go.RowKit Go.Proofs.YtecjdjdfikcliaaGreatDoorW.PrintWords Go.Proofs.YtecjdjdfikcliaaGreatDoorW.PrintLast Go.Proofs.YtecjdjdfikcliaaGreatDoorW.PrintMore

theorem ib_mem : ∀ (l : List UInt8) (c : UInt8), (0 ≤ Lib.indexByte l c ↔ l.contains c = true) ∧ (Lib.indexByte l c < 0 ↔ l.contains c = false)
  | [], c => ⟨⟨fun h => by simp [Lib.indexByte] at h, fun h => by simp at h⟩, ⟨fun _ => rfl, fun _ => by simp [Lib.indexByte]⟩⟩
  | b :: l, c => by
    have ih := ib_mem l c
    have hge := Lib.indexByte_ge l c
    by_cases hb : b = c
    · subst hb
      simp [Lib.indexByte]
    · have h1 : (b == c) = false := beq_eq_false_iff_ne.2 hb
      have h2 : (b :: l).contains c = l.contains c := by
        have h3 : (c == b) = false := beq_eq_false_iff_ne.2 (Ne.symm hb)
        simp only [List.contains_cons, h3, Bool.false_or]
      rw [h2]
      simp only [Lib.indexByte, h1, Bool.false_eq_true, if_false]
      by_cases hk : Lib.indexByte l c = -1
      · have hf : l.contains c = false := ih.2.1 (by omega)
        rw [hk, hf]
        simp
      · have h4 : (Lib.indexByte l c == -1) = false := beq_eq_false_iff_ne.2 hk
        rw [h4]
        simp only [Bool.false_eq_true, if_false]
        have ht : l.contains c = true := ih.1.1 (by omega)
        rw [ht]
        constructor
        · exact ⟨fun _ => rfl, fun _ => by omega⟩
        · exact ⟨fun h => by omega, fun h => by cases h⟩

theorem call_symbol (str : ByteArray) (W : World) (c : UInt8) (r : List UInt8) (hl : bl str = c :: r) (hs : str.size ≤ 8192)
    (ht : Lx.take (c :: r) = if (c :: r).takeWhile Lx.symbolB = [46] ∧ (((c :: r).dropWhile Lx.symbolB).head?.all fun c => Lx.blankB c || c == 37) = true then .ok (6, [], 0, (c :: r).dropWhile Lx.symbolB) else .ok (1, (c :: r).takeWhile Lx.symbolB, 0, (c :: r).dropWhile Lx.symbolB)) :
    Calls Tryz.prog 49 #[.string str] W (RPost (bl str) W) := by
  obtain ⟨n, hn⟩ : ∃ n : Nat, n = ((bl str).takeWhile Lx.symbolB).length := ⟨_, rfl⟩
  have hrun : P.lex_run.f str ⟨#[43, 45, 42, 47, 92, 94, 60, 62, 61, 126, 58, 46, 63, 64, 35, 38, 36]⟩ = some (n : Int) := by
    have h := run_eq str setSymbol ascii_symbol (by omega)
    rw [headLen_symbol, ← hn] at h
    exact h
  have hle : n ≤ str.size := by rw [hn, ← bl_length]; exact head_take _ _
  have hw : bl (str.extract 0 n) = (bl str).takeWhile Lx.symbolB := by rw [bl_extract, List.drop_zero, hn, take_takeWhile]
  have hrest : (bl str).drop n = (bl str).dropWhile Lx.symbolB := by rw [hn, drop_takeWhile]
  have htl : (str.extract 0 n).toList = (bl str).takeWhile Lx.symbolB := by
    rw [Lib.extract_toList, List.drop_zero, Nat.sub_zero, hn]
    exact take_takeWhile _ _
  have key : ∃ (k : Nat) (t : ByteArray), P.lex_symbol.f str = some ((k : Int), t, 0, 0, false, (n : Int), 0) ∧ Lx.take (bl str) = .ok (k, bl t, 0, (bl str).drop n) := by
    unfold P.lex_symbol.f
    rw [hrun]
    simp only [Option.bind_some, Int.toNat_natCast, htl]
    rw [if_pos (by omega), if_pos (by omega)]
    rw [hl] at hw htl hrest ⊢
    rw [hrest]
    by_cases h46 : (c :: r).takeWhile Lx.symbolB = [46]
    · rw [if_pos h46]
      by_cases hend : (n : Int) = (str.size : Int)
      · rw [if_pos hend]
        refine ⟨6, ⟨#[]⟩, rfl, ?_⟩
        have hnil : (c :: r).dropWhile Lx.symbolB = [] := by
          rw [← hrest]
          refine List.drop_eq_nil_of_le ?_
          have := bl_length str
          rw [hl] at this
          omega
        rw [ht, if_pos ⟨h46, by rw [hnil]; rfl⟩]
      · rw [if_neg hend, if_pos (by omega)]
        have hlt : n < str.size := by omega
        obtain ⟨d, hd⟩ : ∃ d, d = str[n] := ⟨_, rfl⟩
        have hdrop : (c :: r).dropWhile Lx.symbolB = d :: (bl str).drop (n + 1) := by
          rw [← hrest, ← hl, drop_at str n hlt, hd]
        have hbt : bt str (n : Int) = d.toNat := by
          have := bt_at str (n : Int) (by simpa using hlt)
          rw [← this, hd]
          rfl
        unfold strings_IndexByte.f
        simp only [Option.bind_some, hbt]
        have ec : (d.toNat : Int).toNat.toUInt8 = d := by simp
        rw [ec]
        have hm := ib_mem [32, 9, 13, 10, 37] d
        have hb : (([32, 9, 13, 10, 37] : List UInt8).contains d) = (Lx.blankB d || d == 37) := by
          unfold Lx.blankB
          simp only [List.contains_cons, List.contains_nil, Bool.or_false, Bool.or_assoc]
        by_cases hi : 0 ≤ Lib.indexByte [32, 9, 13, 10, 37] d
        · have hi' : Lib.indexByte [32, 9, 13, 10, 37] d ≥ 0 := hi
          rw [if_pos hi']
          refine ⟨6, ⟨#[]⟩, rfl, ?_⟩
          rw [ht, if_pos ⟨h46, by rw [hdrop]; simp only [List.head?_cons, Option.all_some]; rw [← hb]; exact hm.1.1 hi⟩]
        · have hi' : ¬ Lib.indexByte [32, 9, 13, 10, 37] d ≥ 0 := hi
          rw [if_neg hi']
          refine ⟨1, _, rfl, ?_⟩
          rw [ht, if_neg, hw]
          rintro ⟨_, h2⟩
          rw [hdrop] at h2
          simp only [List.head?_cons, Option.all_some] at h2
          rw [← hb] at h2
          exact hi (hm.1.2 h2)
    · rw [if_neg h46]
      refine ⟨1, _, rfl, ?_⟩
      rw [ht, if_neg (fun h => h46 h.1), hw]
  obtain ⟨k, t, hf, hk⟩ := key
  refine (P.lex_symbol.calls str _ _ _ _ _ _ _ W hf).mono ?_
  intro e w' ⟨he, hb⟩
  exact ⟨k, t, 0, n, 0, ⟨he, hb⟩, Or.inl ⟨rfl, k, n, rfl, rfl, by rw [bl_length]; exact hle, hk⟩⟩

def begins : Nat → ByteArray
  | 0 => bLower
  | 1 => bUpper
  | 2 => bDigit
  | 3 => bSign
  | 4 => bBang
  | 5 => setSymbol
  | _ => bQuote

theorem enters_f {f : Nat} {fn : Func} (hf : Tryz.prog.funcs[f]? = some fn) (hname : (fn.name == "runtime.NumGoroutine") = false) (hb : fn.body.isSome = true) (args : Array Value) (W : World) : (callFunc f args).run Tryz.prog W = .ok (.enter f args) W :=
  enters_ hf hname hb args W

theorem rule_any (g : Nat) (s0 k0 s1 k1 k3 k4 : Addr) (i : Nat) (hi : i < 7) (str : ByteArray) (c : UInt8) (r : List UInt8) (hl : bl str = c :: r) (hs : str.size ≤ 8192) (hno : ∀ j, j < i → (bl (begins j)).contains c = false) :
    ∃ (bg : ByteArray) (f : Nat) (cap : Array Value), bg = begins i ∧
      (∀ W, RulesAt W g s0 k0 s1 k1 k3 k4 → W.cell? ⟨g, i * 2, none⟩ = some (.string bg) ∧ W.cell? ⟨g, i * 2 + 1, none⟩ = some (.func (.func f) #[] cap)) ∧
      (∀ args W, (callFunc f args).run Tryz.prog W = .ok (.enter f args) W) ∧
      ((bl bg).contains c = true → ∀ W, RulesAt W g s0 k0 s1 k1 k3 k4 → LaidE W → Calls Tryz.prog f (#[.string str] ++ cap) W (RPost (bl str) W)) := by
  have n0 : 0 < i → Lx.lowerB c = false := fun h => hno 0 h
  have n1 : 1 < i → Lx.upperB c = false := fun h => hno 1 h
  have n2 : 2 < i → Lx.digitB c = false := fun h => hno 2 h
  have n3 : 3 < i → Lx.signB c = false := fun h => hno 3 h
  have n4 : 4 < i → Lx.bangB c = false := fun h => hno 4 h
  have n5 : 5 < i → Lx.symbolB c = false := fun h => hno 5 h
  have cells : ∀ (j : Nat) W, RulesAt W g s0 k0 s1 k1 k3 k4 → W.cell? ⟨g, j, none⟩ = _ := fun j W h => blk_cell h.row j
  match i, hi with
  | 0, _ =>
    refine ⟨bLower, _, _, rfl, fun W h => ⟨(cells 0 W h).trans rfl, (cells 1 W h).trans rfl⟩, enters_f Tryz.func66 (by kernel_rfl) rfl, fun hc W h _ => ?_⟩
    have hc' : Lx.lowerB c = true := hc
    refine call_of 1 str W s0 k0 hs h.c0 h.d0 ?_
    rw [hl]; simp only [Lx.take, hc', if_true]
  | 1, _ =>
    refine ⟨bUpper, _, _, rfl, fun W h => ⟨(cells 2 W h).trans rfl, (cells 3 W h).trans rfl⟩, enters_f Tryz.func66 (by kernel_rfl) rfl, fun hc W h _ => ?_⟩
    have hc' : Lx.upperB c = true := hc
    refine call_of 3 str W s1 k1 hs h.c1 h.d1 ?_
    rw [hl]; simp only [Lx.take, n0 (by omega), hc', if_true, Bool.false_eq_true, if_false]
  | 2, _ =>
    refine ⟨bDigit, _, _, rfl, fun W h => ⟨(cells 4 W h).trans rfl, (cells 5 W h).trans rfl⟩, enters_f Tryz.func47 (by kernel_rfl) rfl, fun hc W h hL => ?_⟩
    have hc' : Lx.digitB c = true := hc
    refine call_number str W hL c r hl hc' hs ?_
    simp only [Lx.take, n0 (by omega), n1 (by omega), hc', if_true, Bool.false_eq_true, if_false]
  | 3, _ =>
    refine ⟨bSign, _, _, rfl, fun W h => ⟨(cells 6 W h).trans rfl, (cells 7 W h).trans rfl⟩, enters_f Tryz.func68 (by kernel_rfl) rfl, fun hc W h _ => ?_⟩
    have hc' : Lx.signB c = true := hc
    refine call_one 5 str W k3 c r hl h.d3 ?_
    rw [hl]; simp only [Lx.take, n0 (by omega), n1 (by omega), n2 (by omega), hc', if_true, Bool.false_eq_true, if_false]
  | 4, _ =>
    refine ⟨bBang, _, _, rfl, fun W h => ⟨(cells 8 W h).trans rfl, (cells 9 W h).trans rfl⟩, enters_f Tryz.func68 (by kernel_rfl) rfl, fun hc W h _ => ?_⟩
    have hc' : Lx.bangB c = true := hc
    refine call_one 1 str W k4 c r hl h.d4 ?_
    rw [hl]; simp only [Lx.take, n0 (by omega), n1 (by omega), n2 (by omega), n3 (by omega), hc', if_true, Bool.false_eq_true, if_false]
  | 5, _ =>
    refine ⟨setSymbol, _, _, rfl, fun W h => ⟨(cells 10 W h).trans rfl, (cells 11 W h).trans rfl⟩, enters_f Tryz.func49 (by kernel_rfl) rfl, fun hc W h _ => ?_⟩
    have hc' : Lx.symbolB c = true := hc
    refine call_symbol str W c r hl hs ?_
    simp only [Lx.take, n0 (by omega), n1 (by omega), n2 (by omega), n3 (by omega), n4 (by omega), hc', if_true, Bool.false_eq_true, if_false]
  | 6, _ =>
    refine ⟨bQuote, _, _, rfl, fun W h => ⟨(cells 12 W h).trans rfl, (cells 13 W h).trans rfl⟩, enters_f Tryz.func50 (by kernel_rfl) rfl, fun hc W _ _ => ?_⟩
    have hc' : c = 39 := by
      have h : (([39] : List UInt8).contains c) = true := hc
      simpa using h
    subst hc'
    exact call_quote str W r hl hs

/-- Where no rule begins there is no token. -/
theorem rule_none (c : UInt8) (r : List UInt8) (hno : ∀ j, j < 7 → (bl (begins j)).contains c = false) : Lx.take (c :: r) = .error 10 := by
  have n0 : Lx.lowerB c = false := hno 0 (by omega)
  have n1 : Lx.upperB c = false := hno 1 (by omega)
  have n2 : Lx.digitB c = false := hno 2 (by omega)
  have n3 : Lx.signB c = false := hno 3 (by omega)
  have n4 : Lx.bangB c = false := hno 4 (by omega)
  have n5 : Lx.symbolB c = false := hno 5 (by omega)
  have n6 : c ≠ 39 := by
    have h : (([39] : List UInt8).contains c) = false := hno 6 (by omega)
    intro e
    subst e
    simp at h
  simp only [Lx.take, n0, n1, n2, n3, n4, n5, Bool.false_eq_true, if_false]
  rw [if_neg n6]
end Go.Proofs.YtecjdjdfikcliaaGreatDoor
end
section
/-
  lex.skip: how many bytes of blanks and comments stand at a text's begin.
-/
namespace Go.Proofs.YtecjdjdfikcliaaGreatDoor
open Go.RowKit Go.Proofs.YtecjdjdfikcliaaGreatDoorW.PrintWords

namespace Lx
theorem skipM_blanks : ∀ l : List UInt8, skipM .n l = skipM .n (l.dropWhile blankB)
  | [] => rfl
  | b :: l => by
    by_cases h : blankB b = true
    · rw [List.dropWhile_cons_of_pos h, ← skipM_blanks l]
      simp only [skipM, h, if_true]
    · rw [List.dropWhile_cons_of_neg h]
theorem skipM_line : ∀ l : List UInt8, (Lib.indexByte l 10 = -1 ∧ skipM .l l = ([], true)) ∨ ∃ k : Nat, Lib.indexByte l 10 = k ∧ k < l.length ∧ skipM .l l = skipM .n (l.drop k)
  | [] => .inl ⟨rfl, rfl⟩
  | b :: l => by
    by_cases h : b = 10
    · subst h
      refine .inr ⟨0, rfl, by simp, ?_⟩
      have e : blankB 10 = true := by decide
      simp [skipM, e]
    · have hb : (b == 10) = false := beq_eq_false_iff_ne.2 h
      rcases skipM_line l with ⟨h1, h2⟩ | ⟨k, h1, h2, h3⟩
      · left
        simp [Lib.indexByte, hb, h1, skipM, h, h2]
      · right
        refine ⟨k + 1, ?_, by simpa using h2, ?_⟩
        · have : ((k : Int) == -1) = false := by rw [beq_eq_false_iff_ne]; omega
          simp [Lib.indexByte, hb, h1, this]
        · simp [skipM, h, h3]
theorem skipM_block (st : List UInt8) : ∀ l : List UInt8, (Lib.index l [42, 47] = -1 ∧ skipM (.c st) l = (st, false)) ∨ ∃ k : Nat, Lib.index l [42, 47] = k ∧ k + 2 ≤ l.length ∧ skipM (.c st) l = skipM .n (l.drop (k + 2))
  | [] => .inl ⟨rfl, rfl⟩
  | b :: l => by
    by_cases h : b = 42 ∧ l.head? = some 47
    · obtain ⟨rfl, h2⟩ := h
      cases l with
      | nil => simp at h2
      | cons c r =>
        simp at h2
        subst h2
        refine .inr ⟨0, rfl, by simp, ?_⟩
        simp [skipM]
    · have hp : ([42, 47] : List UInt8).isPrefixOf (b :: l) = false := by
        cases l with
        | nil => simp [List.isPrefixOf]
        | cons c r =>
          simp only [List.head?_cons, Option.some.injEq] at h
          simp only [List.isPrefixOf, Bool.and_true, Bool.and_eq_false_iff, beq_eq_false_iff_ne]
          by_cases hb : b = 42
          · exact .inr (fun e => h ⟨hb, e.symm⟩)
          · exact .inl (fun e => hb e.symm)
      rcases skipM_block st l with ⟨h1, h2⟩ | ⟨k, h1, h2, h3⟩
      · left
        constructor
        · simp [Lib.index, hp, h1]
        · simp only [skipM]; rw [if_neg h]; exact h2
      · right
        refine ⟨k + 1, ?_, by simp; omega, ?_⟩
        · have : ((k : Int) == -1) = false := by rw [beq_eq_false_iff_ne]; omega
          simp [Lib.index, hp, h1, this]
        · simp only [skipM]; rw [if_neg h, h3]; rfl
theorem skip_pct (r : List UInt8) : skipM .n (37 :: r) = skipM .l r := by
  have : blankB 37 = false := by decide
  simp [skipM, this]
theorem skip_com (r : List UInt8) : skipM .n (47 :: 42 :: r) = skipM (.c (47 :: 42 :: r)) r := by
  have : blankB 47 = false := by decide
  simp [skipM, this]
theorem skip_stop (rest : List UInt8) (h0 : ∀ b r, rest = b :: r → blankB b = false) (h1 : ¬ ∃ r, rest = 37 :: r) (h2 : ¬ ∃ r, rest = 47 :: 42 :: r) : skipM .n rest = (rest, true) := by
  cases rest with
  | nil => rfl
  | cons b r =>
    simp only [skipM, h0 b r rfl]
    rw [if_neg (by decide), if_neg (fun e => h1 ⟨r, by rw [e]⟩), if_neg]
    rintro ⟨rfl, e⟩
    cases r with
    | nil => simp at e
    | cons c r' => simp at e; exact h2 ⟨r', by rw [e]⟩
theorem dropWhile_head {α : Type} (p : α → Bool) : ∀ (l : List α) (b : α) (r : List α), l.dropWhile p = b :: r → p b = false
  | [], b, r, h => by simp at h
  | a :: l, b, r, h => by
    by_cases ha : p a = true
    · rw [List.dropWhile_cons_of_pos ha] at h
      exact dropWhile_head p l b r h
    · rw [List.dropWhile_cons_of_neg ha] at h
      injection h with h _
      rw [← h]
      simpa using ha
end Lx

def lex_skip.f (a0 : ByteArray) : Option (Int × Bool) :=
  if a0.size < 4294967281 then some ((a0.size - (Lx.skip (bl a0)).1.length : Nat), (Lx.skip (bl a0)).2) else none

def KPost (q : List UInt8 × Bool) (n : Nat) (w : World) (e : Ending) (w' : World) : Prop :=
  e = .returned (.tuple #[.int .i64 (n - q.1.length : Nat), .bool q.2]) ∧ Below w.heap.size w w'

theorem run_call (s : ByteArray) (a : Nat) (W : World) (n : Nat) (hn : n = ((bl s).drop a |>.takeWhile Lx.blankB).length) (hs : s.size < 4294967281) :
    Calls Tryz.prog 43 #[.string (s.extract a s.size), .string ⟨#[32, 9, 13, 10]⟩] W fun e w' => e = .returned (.int .i64 n) ∧ Below W.heap.size W w' := by
  have h := run_eq (s.extract a s.size) setBlank ascii_blank (by rw [ba_from_size]; omega)
  rw [headLen_blank, bl_from, ← hn] at h
  exact P.lex_run.calls _ _ _ W h
theorem pre_call (s : ByteArray) (a : Nat) (p : ByteArray) (W : World) (b : Bool) (hb : Lib.hasPrefix ((bl s).drop a) (bl p) = b) :
    Calls Tryz.prog 44 #[.string (s.extract a s.size), .string p] W fun e w' => e = .returned (.bool b) ∧ W = w' := by
  refine (Tryz.strings_HasPrefix _ p W).mono ?_
  rintro e w' ⟨rfl, rfl⟩
  refine ⟨?_, rfl⟩
  have e := bl_from s a
  unfold bl at e
  rw [e, ← hb]
theorem nl_call (s : ByteArray) (a : Nat) (W : World) (k : Int) (hk : Lib.indexByte ((bl s).drop a) 10 = k) :
    Calls Tryz.prog 33 #[.string (s.extract a s.size), .int .u8 10] W fun e w' => e = .returned (.int .i64 k) ∧ W = w' := by
  refine (Tryz.strings_IndexByte _ 10 W).mono ?_
  rintro e w' ⟨rfl, rfl⟩
  refine ⟨?_, rfl⟩
  have e := bl_from s a
  unfold bl at e
  rw [e, ← hk]
  rfl
theorem end_call (s : ByteArray) (a : Nat) (W : World) (hL : LaidE W) (k : Int) (hk : Lib.index ((bl s).drop (a + 2)) [42, 47] = k) (hs : s.size < 4294967281) :
    Calls Tryz.prog 45 #[.string ((s.extract a s.size).extract 2 (s.size - a)), .string ⟨#[42, 47]⟩] W fun e w' => e = .returned (.int .i64 k) ∧ W = w' := by
  obtain ⟨m, hm⟩ := hL.num
  have hsz : ((s.extract a s.size).extract 2 (s.size - a)).data.toList = (bl s).drop (a + 2) := by
    have e1 := ba_from_size s a
    have e2 := bl_from (s.extract a s.size) 2
    rw [e1, bl_from, List.drop_drop] at e2
    exact e2
  have hlen : ((s.extract a s.size).extract 2 (s.size - a)).size < 4294967281 := by
    have := congrArg List.length hsz
    rw [List.length_drop] at this
    have e2 := bl_length s
    have e : ((s.extract a s.size).extract 2 (s.size - a)).data.toList.length = ((s.extract a s.size).extract 2 (s.size - a)).size := rfl
    omega
  refine (Tryz.strings_Index _ ⟨#[42, 47]⟩ m W hlen hm).mono ?_
  rintro e w' ⟨rfl, rfl⟩
  refine ⟨?_, rfl⟩
  rw [hsz, ← hk]

set_option maxHeartbeats 4000000 in
set_option maxRecDepth 100000 in
theorem lex_skip.walk (s : ByteArray) (w : World) (hL : LaidE w) (hs : s.size < 4294967281) :
    Calls Tryz.prog 31 #[.string s] w (KPost (Lx.skip (bl s)) s.size w) := by
  obtain ⟨q, hq⟩ : ∃ q, Lx.skipM .n ((bl s).drop 0) = q := ⟨_, rfl⟩
  have e0 : Lx.skip (bl s) = q := by rw [← hq]; rfl
  rw [e0]
  clear e0
  have HQ := Lib.hid hq
  have HL := Lib.hid hL
  clear hq hL
  go_enter Tryz.func31, Tryz.ntmps31
  go_wp2
  go_loopw [4] (fun v4 wr => ∃ p : Nat, v4 = .int .i64 p ∧ p ≤ s.size ∧ Hid (Lx.skipM .n ((bl s).drop p) = q) ∧ Below w.heap.size w wr) (fun v4 _ => s.size - (intOf v4).toNat)
  case atStart => exact ⟨0, rfl, Nat.zero_le _, HQ, Below.refl _ _⟩
  case round =>
    obtain ⟨p, rfl, hp, hR, hb⟩ := hrel
    obtain ⟨n, hn⟩ : ∃ n : Nat, n = ((bl s).drop p |>.takeWhile Lx.blankB).length := ⟨_, rfl⟩
    have hpn : p + n ≤ s.size := by
      have := Lx.dropWhile_len Lx.blankB ((bl s).drop p)
      rw [List.length_drop, bl_length] at this
      omega
    have hR1 : Lx.skipM .n ((bl s).drop (p + n)) = q := by
      have h := hR.out
      rw [Lx.skipM_blanks, ← drop_takeWhile, ← hn, List.drop_drop] at h
      exact h
    have hnb : ∀ b r, (bl s).drop (p + n) = b :: r → Lx.blankB b = false := by
      intro b r e
      rw [hn, ← List.drop_drop, drop_takeWhile] at e
      exact Lx.dropWhile_head _ _ _ _ e
    have HN := Lib.hid hn
    have HNB := Lib.hid hnb
    clear hnb
    have HR1 := Lib.hid hR1
    clear hn hR1
    go_wp2_with fail
    refine (run_call s p _ n HN.out hs).mono ?_
    rintro e w1 ⟨rfl, hb1⟩
    have hbw := hb.trans (hb1.mono hb.size)
    clear hb1
    have hrest : ((bl s).drop (p + n)).length = s.size - (p + n) := by rw [List.length_drop, bl_length]
    obtain ⟨rest, hr⟩ : ∃ rest, (bl s).drop (p + n) = rest := ⟨_, rfl⟩
    have HRS := Lib.hid hr
    have HLN := Lib.hid (hr ▸ hrest)
    have HR2 := Lib.hid (hr ▸ HR1.out)
    clear hr hrest
    by_cases hA : ∃ r, rest = 37 :: r
    · obtain ⟨r, rfl⟩ := hA
      have hLn := HLN.out
      simp only [List.length_cons] at hLn
      have hpre := Lib.hid (show Lib.hasPrefix ((bl s).drop (p + n)) (bl ⟨#[37]⟩) = true by rw [HRS.out]; rfl)
      have h2 := HR2.out
      rw [Lx.skip_pct] at h2
      rcases Lx.skipM_line r with ⟨k1, k2⟩ | ⟨k, k1, k2, k3⟩
      · have hk := Lib.hid (show Lib.indexByte ((bl s).drop (p + n)) 10 = -1 by rw [HRS.out]; simp [Lib.indexByte, k1])
        have hq := Lib.hid (show Lx.skipM .n ((bl s).drop s.size) = q by rw [← h2, k2, List.drop_eq_nil_of_le (Nat.le_of_eq (bl_length s))]; rfl)
        clear h2 k1 k2
        go_wp2_with (first | (go_at_call 44; refine (pre_call s (p + n) ⟨#[37]⟩ _ true hpre.out).mono ?_; rintro e w2 ⟨rfl, rfl⟩) | (go_at_call 33; refine (nl_call s (p + n) _ (-1) hk.out).mono ?_; rintro e w2 ⟨rfl, rfl⟩))
        go_roundw
        case rel => exact ⟨s.size, rfl, Nat.le_refl _, hq, hbw⟩
        case measure => simp [intOf]; omega
      · have hk := Lib.hid (show Lib.indexByte ((bl s).drop (p + n)) 10 = (k + 1 : Nat) by
          rw [HRS.out]
          have e : ((k : Int) == -1) = false := by rw [beq_eq_false_iff_ne]; omega
          simp [Lib.indexByte, k1, e])
        have hq := Lib.hid (show Lx.skipM .n ((bl s).drop (p + n + (k + 1))) = q by rw [← h2, k3, ← List.drop_drop, HRS.out]; rfl)
        clear h2 k1 k3
        go_wp2_with (first | (go_at_call 44; refine (pre_call s (p + n) ⟨#[37]⟩ _ true hpre.out).mono ?_; rintro e w2 ⟨rfl, rfl⟩) | (go_at_call 33; refine (nl_call s (p + n) _ _ hk.out).mono ?_; rintro e w2 ⟨rfl, rfl⟩))
        go_roundw
        case rel => exact ⟨p + n + (k + 1), by go_num, by omega, hq, hbw⟩
        case measure => simp [intOf]; omega
    · have hpre := Lib.hid (show Lib.hasPrefix ((bl s).drop (p + n)) (bl ⟨#[37]⟩) = false by
        rw [HRS.out]
        cases rest with
        | nil => rfl
        | cons b r =>
          have hb : b ≠ 37 := fun e => hA ⟨r, by rw [e]⟩
          have : ((37 : UInt8) == b) = false := beq_eq_false_iff_ne.2 (Ne.symm hb)
          simp [Lib.hasPrefix, List.isPrefixOf, this])
      by_cases hB : ∃ r, rest = 47 :: 42 :: r
      · obtain ⟨r, rfl⟩ := hB
        have hLn := HLN.out
        simp only [List.length_cons] at hLn
        have hpre2 := Lib.hid (show Lib.hasPrefix ((bl s).drop (p + n)) (bl ⟨#[47, 42]⟩) = true by rw [HRS.out]; rfl)
        have h2 := HR2.out
        rw [Lx.skip_com] at h2
        have hd2 : (bl s).drop (p + n + 2) = r := by rw [← List.drop_drop, HRS.out]; rfl
        clear hA
        rcases Lx.skipM_block (47 :: 42 :: r) r with ⟨k1, k2⟩ | ⟨k, k1, k2, k3⟩
        · have hk := Lib.hid (show Lib.index ((bl s).drop (p + n + 2)) [42, 47] = -1 by rw [hd2, k1])
          have hq := Lib.hid (show q = (47 :: 42 :: r, false) by rw [← h2, k2])
          clear h2 k1 k2 hd2
          go_wp2_with (first | (go_at_call 44; refine (pre_call s (p + n) ⟨#[37]⟩ _ false hpre.out).mono ?_; clear hpre; rintro e w2 ⟨rfl, rfl⟩) | (go_at_call 44; refine (pre_call s (p + n) ⟨#[47, 42]⟩ _ true hpre2.out).mono ?_; rintro e w2 ⟨rfl, rfl⟩) | (go_at_call 45; refine (end_call s (p + n) _ (HL.out.below hbw) _ hk.out hs).mono ?_; rintro e w2 ⟨rfl, rfl⟩))
          go_ret2
          rw [hq.out]
          refine ⟨?_, hbw⟩
          have e : s.size - (47 :: 42 :: r).length = p + n := by simp only [List.length_cons]; omega
          show Ending.returned _ = _
          simp only [e]
          rfl
        · have hk := Lib.hid (show Lib.index ((bl s).drop (p + n + 2)) [42, 47] = k by rw [hd2, k1])
          have hq := Lib.hid (show Lx.skipM .n ((bl s).drop (p + n + (k + 4))) = q by rw [← h2, k3, ← hd2, List.drop_drop]; congr 2; omega)
          clear h2 k1 k3 hd2
          go_wp2_with (first | (go_at_call 44; refine (pre_call s (p + n) ⟨#[37]⟩ _ false hpre.out).mono ?_; clear hpre; rintro e w2 ⟨rfl, rfl⟩) | (go_at_call 44; refine (pre_call s (p + n) ⟨#[47, 42]⟩ _ true hpre2.out).mono ?_; rintro e w2 ⟨rfl, rfl⟩) | (go_at_call 45; refine (end_call s (p + n) _ (HL.out.below hbw) _ hk.out hs).mono ?_; rintro e w2 ⟨rfl, rfl⟩))
          go_roundw
          case rel => exact ⟨p + n + (k + 4), by go_num, by omega, hq, hbw⟩
          case measure => simp [intOf]; omega
      · have hpre2 := Lib.hid (show Lib.hasPrefix ((bl s).drop (p + n)) (bl ⟨#[47, 42]⟩) = false by
          rw [HRS.out]
          cases rest with
          | nil => rfl
          | cons b r =>
            cases r with
            | nil => simp [Lib.hasPrefix, List.isPrefixOf]
            | cons c r' =>
              have : ¬ (47 = b ∧ 42 = c) := fun e => hB ⟨r', by rw [← e.1, ← e.2]⟩
              simpa [Lib.hasPrefix, List.isPrefixOf] using this)
        have hq := Lib.hid (show q = (rest, true) by rw [← HR2.out]; exact Lx.skip_stop rest (fun b r e => HNB.out b r (HRS.out.trans e)) hA hB)
        have hl := HLN.out
        clear hA hB
        go_wp2_with (first | (go_at_call 44; refine (pre_call s (p + n) ⟨#[37]⟩ _ false hpre.out).mono ?_; clear hpre; rintro e w2 ⟨rfl, rfl⟩) | (go_at_call 44; refine (pre_call s (p + n) ⟨#[47, 42]⟩ _ false hpre2.out).mono ?_; rintro e w2 ⟨rfl, rfl⟩))
        go_ret2
        rw [hq.out]
        refine ⟨?_, hbw⟩
        have e : s.size - rest.length = p + n := by omega
        show Ending.returned _ = _
        simp only [e]
        rfl

theorem lex_skip.calls (a0 : ByteArray) (r1 : Int) (r2 : Bool) (w : World) (hL : LaidE w) (h : lex_skip.f a0 = some (r1, r2)) :
    Calls Tryz.prog 31 #[.string a0] w fun e w' => e = .returned (.tuple #[.int .i64 r1, .bool r2]) ∧ Below w.heap.size w w' := by
  unfold lex_skip.f at h
  split at h
  · simp only [Option.some.injEq, Prod.mk.injEq] at h
    obtain ⟨rfl, rfl⟩ := h
    exact lex_skip.walk a0 w hL (by assumption)
  · cases h
end Go.Proofs.YtecjdjdfikcliaaGreatDoor
end
