/-
  term.Depth.
-/
import Derived.Test.YtecjdjdfikcliaaGreatDoorMDepth
namespace Go.Proofs.YtecjdjdfikcliaaGreatDoor.Pr
open Go Go.Proofs.YtecjdjdfikcliaaGreatDoor
open Go.RowKit Go.Proofs.YtecjdjdfikcliaaGreatDoorW.PrintWords Go.Proofs.YtecjdjdfikcliaaGreatDoorW.PrintLast Go.Proofs.YtecjdjdfikcliaaGreatDoorW.PrintMore Go.Proofs.YtecjdjdfikcliaaGreatDoor.P
attribute [local go_sem] Oper.semAt_some

theorem nodes_calls (f0 f1 f2 f3 : Value) (w : World) :
    Calls Tryz.prog 24 #[.agg #[f0, f1, f2, f3]] w fun e w' => e = .returned (.func (.func 37) #[] #[.pointer (some ⟨w.heap.size, 0, none⟩)]) ∧ w' = w.alloc (.cells #[f0, f1, f2, f3] 36) := by
  have hu24 := Tryz.underlying36
  go_enter Tryz.func24, Tryz.ntmps24
  go_wp2
  go_ret
  exact ⟨rfl, rfl⟩

set_option maxHeartbeats 4000000 in
set_option maxRecDepth 100000 in
theorem Depth_calls (x : S36) (v : Value) (w : World) (hV : TermV w x v) (hsz : szT x ≤ 1000000) :
    Calls Tryz.prog 61 #[v] w fun e w' => e = .returned (.int .i64 (depT x : Int)) ∧ Below w.heap.size w w' := by
  have hu24 := Tryz.underlying36
  have hu3 := Tryz.underlying3
  have hVV := Lib.hid hV
  obtain ⟨A, c, rfl, hc, hC⟩ := hV
  obtain ⟨dps, hdps⟩ : ∃ dps, preT 1 x = dps := ⟨_, rfl⟩
  have hfold := fold_pre x 1 0 (Nat.le_refl _)
  rw [hdps] at hfold
  refine (callsIn_wide (n := 9)).1 ?_
  refine callsIn_of_wp_marks Tryz.func61 rfl trivial ?_ rfl
  simp only [Tryz.ntmps61, List.size_toArray, List.length_cons, List.length_nil, Nat.reduceAdd, Nat.reduceSub, Array.replicate_succ, Array.replicate_zero, List.push_toArray, List.append_toArray, List.nil_append, List.cons_append]
  have hHF := Lib.hid hfold
  have hHD := Lib.hid hdps
  clear hfold hdps hC
  gi_wp2_with fail
  refine ⟨trivial, ?_⟩
  refine (callsIn_wide.2 (nodes_calls _ _ _ _ _)).mono ?_
  rintro e w3 ⟨rfl, hw3⟩
  have hz2 : ((w.alloc (.cells #[.int .u8 x.f0, .string x.f1, .int .i64 x.f2, .slice A x.f3.length c] 36)).alloc (.cells #[.int .i64 0] 3)).heap.size = w.heap.size + 2 := by rw [World.size_alloc, World.size_alloc]
  have hb2 : Below w.heap.size w ((w.alloc (.cells #[.int .u8 x.f0, .string x.f1, .int .i64 x.f2, .slice A x.f3.length c] 36)).alloc (.cells #[.int .i64 0] 3)) := ((Below.refl _ w).alloc (Nat.le_refl _) _).alloc (by rw [World.size_alloc]; omega) _
  have hn2 : ((w.alloc (.cells #[.int .u8 x.f0, .string x.f1, .int .i64 x.f2, .slice A x.f3.length c] 36)).alloc (.cells #[.int .i64 0] 3)).heap[w.heap.size + 1]? = some (.cells #[.int .i64 0] 3 (0, 0)) := by
    have := (MapKept.heap_alloc (w.alloc (.cells #[.int .u8 x.f0, .string x.f1, .int .i64 x.f2, .slice A x.f3.length c] 36)) (.cells #[.int .i64 0] 3)).1
    rwa [World.size_alloc] at this
  generalize (w.alloc (.cells #[.int .u8 x.f0, .string x.f1, .int .i64 x.f2, .slice A x.f3.length c] 36)).alloc (.cells #[.int .i64 0] 3) = w2 at hw3 hz2 hb2 hn2 ⊢
  have hb3 : Below w.heap.size w w3 := by rw [hw3]; exact hb2.alloc hb2.size _
  have hn3 : w3.heap[w.heap.size + 1]? = some (.cells #[.int .i64 0] 3 (0, 0)) := by rw [hw3]; exact (Below.heap_alloc _ _ _ (by omega)).trans hn2
  have hx3 : w3.heap[w.heap.size + 2]? = some (.cells #[.int .u8 x.f0, .string x.f1, .int .i64 x.f2, .slice A x.f3.length c] 36 (0, 0)) := by rw [hw3, ← hz2]; exact (MapKept.heap_alloc w2 _).1
  have hz3 : w3.heap.size = w.heap.size + 3 := by rw [hw3, World.size_alloc, hz2]
  rw [hz2]
  clear hw3 hz2 hb2 hn2
  gi_wp2
  refine wp_range_own2 (P := Tryz.prog) (gf := 37) (lb := #[.pointer (some ⟨w.heap.size + 2, 0, none⟩)]) rfl (fun _ _ => rfl)
    (fun i W => W.heap[w.heap.size + 1]? = some (.cells #[.int .i64 (((dps.take i).foldl max 0 : Nat) : Int)] 3 (0, 0)) ∧ W.heap[w.heap.size + 2]? = some (.cells #[.int .u8 x.f0, .string x.f1, .int .i64 x.f2, .slice A x.f3.length c] 36 (0, 0)) ∧ Below w.heap.size w W)
    (fun i v _ => ∃ h : i < dps.length, v = .int .i64 (dps[i] : Int)) dps.length
    (fun i v u a' W => (W.heap[w.heap.size + 1]? = some (.cells #[.int .i64 (((dps.take i).foldl max 0 : Nat) : Int)] 3 (0, 0)) ∧ W.heap[w.heap.size + 2]? = some (.cells #[.int .u8 x.f0, .string x.f1, .int .i64 x.f2, .slice A x.f3.length c] 36 (0, 0)) ∧ Below w.heap.size w W) ∧
      ∃ h : i < dps.length, a' = { tmps := #[.agg #[.int .u8 x.f0, .string x.f1, .int .i64 x.f2, .slice A x.f3.length c], .pointer (some ⟨w.heap.size, 0, none⟩), .int .i64 0, .pointer (some ⟨w.heap.size + 1, 0, none⟩), .int .i64 (dps[i] : Int),
        .agg #[.int .u8 x.f0, .string x.f1, .int .i64 x.f2, .slice A x.f3.length c], .func (.func 37) #[] #[.pointer (some ⟨w.heap.size + 2, 0, none⟩)], .int .i64 (dps[i] : Int), u, undef, undef, undef, undef], defers := [] })
    (KbN (w.heap.size + 1)) (fun _ => True) ?kt ?kc ?fin ?hI ?hA ?h0 ?assign ?body ?iter ?done
  case kt => exact fun _ _ _ h g => h.trans g
  case kc => exact fun _ _ h => KbN.of h
  case fin => exact fun _ _ _ _ => trivial
  case hI =>
    rintro i W W' ⟨h1, h2, h3⟩ hbut hc
    exact ⟨hc.2 _ _ _ _ h1, hc.2 _ _ _ _ h2, hbut.os.trans h3.os, hbut.tape.trans h3.tape, hbut.output.trans h3.output, Nat.le_trans h3.size hbut.size, fun k hk => (hbut.block k (by have := h3.size; omega) (by omega)).trans (h3.block k hk)⟩
  case hA =>
    rintro i v u a' W W' ⟨⟨h1, h2, h3⟩, h4⟩ hbut hc
    exact ⟨⟨hc.2 _ _ _ _ h1, hc.2 _ _ _ _ h2, hbut.os.trans h3.os, hbut.tape.trans h3.tape, hbut.output.trans h3.output, Nat.le_trans h3.size hbut.size, fun k hk => (hbut.block k (by have := h3.size; omega) (by omega)).trans (h3.block k hk)⟩, h4⟩
  case h0 => exact ⟨hn3, hx3, hb3⟩
  case assign =>
    rintro n i v u W K ⟨h1, h2, h3⟩ ⟨hi, rfl⟩ hrec hK
    gi_wp2
    exact hK _ _ ⟨⟨h1, h2, h3⟩, hi, rfl⟩ ⟨rfl, rfl⟩ ⟨Nat.le_refl _, fun _ _ _ _ _ h => h⟩
  case body =>
    rintro n i v u a' W hi ⟨⟨h1, h2, h3⟩, hi', rfl⟩ ⟨_, rfl⟩ hrec
    have c1 : W.cell? ⟨w.heap.size + 1, 0, none⟩ = some (.int .i64 (((dps.take i).foldl max 0 : Nat) : Int)) := Lib.cell_of_heap h1 0
    have f1 : W.frozen? ⟨w.heap.size + 1, 0, none⟩ = false := Lib.frozen_of_heap h1 0
    have hstep : (dps.take (i + 1)).foldl max 0 = max ((dps.take i).foldl max 0) dps[i] := by
      rw [List.take_succ_eq_append_getElem hi', List.foldl_append]
      rfl
    have HST := Lib.hid hstep
    have hmx : ∀ a b : Nat, (max (a : Int) (b : Int)) = ((max a b : Nat) : Int) := fun a b => by omega
    have hlt := hrec.lt
    obtain ⟨M, hM⟩ : ∃ M, (dps.take i).foldl max 0 = M := ⟨_, rfl⟩
    obtain ⟨D, hD⟩ : ∃ D, dps[i] = D := ⟨_, rfl⟩
    rw [hM] at h1 c1 HST
    rw [hD] at HST ⊢
    clear hstep hM hD
    have fin : ∀ q : Nat, (dps.take (i + 1)).foldl max 0 = q → ((W.setCell ⟨w.heap.size + 1, 0, none⟩ (.int .i64 (q : Int))).heap[w.heap.size + 1]? = some (.cells #[.int .i64 (((dps.take (i + 1)).foldl max 0 : Nat) : Int)] 3 (0, 0)) ∧
        (W.setCell ⟨w.heap.size + 1, 0, none⟩ (.int .i64 (q : Int))).heap[w.heap.size + 2]? = some (.cells #[.int .u8 x.f0, .string x.f1, .int .i64 x.f2, .slice A x.f3.length c] 36 (0, 0)) ∧ Below w.heap.size w (W.setCell ⟨w.heap.size + 1, 0, none⟩ (.int .i64 (q : Int)))) ∧
        RecKept (w.heap.size + 3) W (W.setCell ⟨w.heap.size + 1, 0, none⟩ (.int .i64 (q : Int))) ∧ KbN (w.heap.size + 1) W (W.setCell ⟨w.heap.size + 1, 0, none⟩ (.int .i64 (q : Int))) := by
      intro q hq
      rw [hq]
      refine ⟨⟨heap_setCell_same h1 0 _, (Below.heap_setCell _ _ _ _ (by show w.heap.size + 2 ≠ w.heap.size + 1; omega)).trans h2, h3.setCell (by show w.heap.size ≤ w.heap.size + 1; omega) _⟩, ⟨Below.heap_setCell _ _ _ _ (by show w.heap.size + 3 ≠ w.heap.size + 1; omega), Below.heap_setCell _ _ _ _ (by show w.heap.size + 3 + 1 ≠ w.heap.size + 1; omega)⟩, ?_⟩
      exact ⟨by simp [World.setCell], fun j c t f hj hx => (Below.heap_setCell _ _ _ _ hj).trans hx⟩
    have HFIN := Lib.hid fin
    clear fin
    gi_wp2
    · exact HFIN.out D (by have := HST.out; omega)
    · exact HFIN.out M (by have := HST.out; omega)
  case iter =>
    intro J hJ1 hJ2 hJ3 n W1 hJ0 hk1 hbut
    obtain ⟨⟨n1, x1, b1⟩, hrec⟩ := hJ1 0 W1 hJ0
    refine callsIn_of_wp Tryz.func37 rfl trivial ?_ rfl
    simp only [Tryz.ntmps37, List.size_toArray, List.length_cons, List.length_nil, Nat.reduceAdd, Nat.reduceSub, Array.replicate_succ, Array.replicate_zero, List.push_toArray, List.append_toArray, List.nil_append, List.cons_append]
    have c0 := Lib.cell_of_heap x1 0
    have c1 := Lib.cell_of_heap x1 1
    have c2 := Lib.cell_of_heap x1 2
    have c3 := Lib.cell_of_heap x1 3
    have hwk := walk_calls w dps (w.heap.size + 1) (w3.heap.size + 1) J (fun i W hJ => by
        obtain ⟨⟨q1, _, q3⟩, _⟩ := hJ1 i W hJ
        exact ⟨q3, (Array.getElem?_eq_some_iff.1 q1).1⟩)
      (fun i W o hJ => by
        obtain ⟨⟨q1, q2, q3⟩, hr⟩ := hJ1 i W hJ
        have hl := hr.lt
        exact hJ2 i W _ hJ ⟨(Below.heap_alloc _ _ _ (Array.getElem?_eq_some_iff.1 q1).1).trans q1, (Below.heap_alloc _ _ _ (Array.getElem?_eq_some_iff.1 q2).1).trans q2, q3.alloc q3.size _⟩ ⟨Below.heap_alloc _ _ _ (by omega), Below.heap_alloc _ _ _ (by omega)⟩)
      (fun n i v u W hi hJ hR => hJ3 n i v u W hi hJ hR) 1000000 x 1 0 (n - 1) _ [] W1 hsz (Nat.le_refl _) (by omega) hVV.out hJ0 (by rw [List.drop_zero, List.append_nil, hHD.out])
    rw [hHD.out, Nat.zero_add, hz3] at hwk
    have hwk' : CallsIn Fence.wide (n - 1) Tryz.prog 38 #[.agg #[.int .u8 x.f0, .string x.f1, .int .i64 x.f2, .slice A x.f3.length c], .int .i64 1, .func (.yield (w.heap.size + 3 + 1)) #[] #[]] W1 fun e W' => e = .returned (.bool true) ∧ J dps.length W' ∧ KbN (w.heap.size + 1) W1 W' := hwk
    have HWK := Lib.hid hwk'
    clear hwk hwk' hJ1 hJ2 hJ3 hk1 hbut
    gi_wp2_with fail
    refine ⟨trivial, fun h => absurd h (by simp [Fence.wide]), ?_⟩
    refine HWK.out.mono ?_
    rintro e W3 ⟨rfl, hJ', _⟩
    gi_wp2
    go_end0
    exact ⟨⟨_, rfl⟩, hJ', trivial⟩
  case done =>
    rintro W ⟨h1, h2, h3⟩ _ hD
    rw [List.take_length, hHF.out] at h1
    have hdp := Lib.hid (depT_eq x)
    have e1 : max 0 (1 + depT x - 1) = depT x := by have := hdp.out; omega
    rw [e1] at h1
    have c1 : W.cell? ⟨w.heap.size + 1, 0, none⟩ = some (.int .i64 (depT x : Int)) := Lib.cell_of_heap h1 0
    have hDD := Lib.hid hD
    clear hD e1 h1 h2
    gi_wp2
    refine ⟨by simp, .inl ⟨_, _, rfl, run_takeDeferred hDD.out, ?_⟩⟩
    refine ⟨_, results_tmp rfl _ _ _, ?_⟩
    refine ⟨rfl, h3.os, h3.tape, h3.output, by simpa [World.putObj] using h3.size, fun k hk => (World.putObj_heap_other (by omega)).trans (h3.block k hk)⟩
end Go.Proofs.YtecjdjdfikcliaaGreatDoor.Pr
