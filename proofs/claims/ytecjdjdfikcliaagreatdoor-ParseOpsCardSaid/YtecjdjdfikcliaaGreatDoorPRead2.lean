/-
  The reader's small methods: fail, take, operator; begins.
-/
import Derived.Test.YtecjdjdfikcliaaGreatDoorMRead
import Derived.Test.YtecjdjdfikcliaaGreatDoorMOps
import Derived.StillTailTactics
namespace Go.Proofs.YtecjdjdfikcliaaGreatDoor.Pr
open Go Go.Proofs.YtecjdjdfikcliaaGreatDoor
open Go.RowKit Go.Proofs.YtecjdjdfikcliaaGreatDoorW.PrintWords Go.Proofs.YtecjdjdfikcliaaGreatDoorW.PrintLast Go.Proofs.YtecjdjdfikcliaaGreatDoorW.PrintMore Go.Proofs.YtecjdjdfikcliaaGreatDoor.P

/-- What fail throws. -/
def wrongV (at_ e : Int) : Value := .iface 56 (.agg #[.int .i64 at_, .int .i64 e])

set_option maxHeartbeats 2000000 in
set_option maxRecDepth 100000 in
theorem fail_calls {W : World} {rb c i deep : Nat} {A : Option Addr} {toks : List S62} {ns : List ByteArray} {nv : Value} (er : Int) (h : Rd W rb A c toks i deep ns nv) :
    Calls Tryz.prog 23 #[.pointer (some ⟨rb, 0, none⟩), .int .i64 er] W fun e w' => e = .panicked [{ v := wrongV (toks[i]'h.lt).f3 er, recovered := false }] ∧ Below W.heap.size W w' := by
  obtain ⟨ad, rfl, c0, c1, c2, c3, hc⟩ := h.cells
  obtain ⟨t0, t1, _, t3, _⟩ := hc i h.lt
  have hlt := h.lt
  have hfew := h.few
  obtain ⟨T, hT⟩ : ∃ T, toks[i]'h.lt = T := ⟨_, rfl⟩
  rw [hT] at t3 ⊢
  clear hc c2 c3 hT t0 t1
  go_enter Tryz.func23, Tryz.ntmps23
  go_wp2_with fail
  go_still_tail 14, (by kernel_rfl)
  change wpList _ _ _ _ _ W.drew
  go_wp2
  exact ⟨rfl, rfl, (Below.refl _ W).drew⟩

set_option maxHeartbeats 2000000 in
set_option maxRecDepth 100000 in
theorem take_calls {W : World} {rb c i deep : Nat} {A : Option Addr} {toks : List S62} {ns : List ByteArray} {nv : Value} (sign : ByteArray) (h : Rd W rb A c toks i deep ns nv)
    (hs : (decide ((toks[i]'h.lt).f0 = 5) && ((toks[i]'h.lt).f1.toList == sign.toList)) = true) (hn : i + 1 < toks.length) :
    Calls Tryz.prog 57 #[.pointer (some ⟨rb, 0, none⟩), .string sign] W fun e w' => e = .returned (.tuple #[]) ∧ Rd w' rb A c toks (i + 1) deep ns nv ∧ Fr rb nv nv W w' := by
  have hi := is_calls sign h
  rw [hs] at hi
  have HI := Lib.hid hi
  have hfew := h.few
  have HH := Lib.hid h
  clear hi hs h
  go_enter Tryz.func57, Tryz.ntmps57
  go_wp2_with fail
  refine HI.out.mono ?_
  rintro e w1 ⟨rfl, hb1⟩
  have h1 := HH.out.below hb1
  have f1 : w1.frozen? ⟨rb, 1, none⟩ = false := Lib.frozen_of_heap h1.box 1
  obtain ⟨ad, rfl, c0, c1, c2, c3, hc⟩ := h1.cells
  have H1 := Lib.hid h1
  clear hc c0 c2 c3 HI h1
  go_wp2
  go_end0
  refine ⟨rfl, ?_, (Fr.of_below hb1).trans (Fr.setBox _ _ _)⟩
  have := H1.out.setI (i + 1) hn
  exact this

/-- Does a term begin at a token? -/
def begM (T : S62) : Bool :=
  if T.f0 = 6 ∨ T.f0 = 7 then false
  else if T.f0 = 5 then (decide (bl T.f1 = [40]) || decide (bl T.f1 = [91]))
  else if T.f0 = 1 then (!(infR (bl T.f1)).2.2.2 || ((preR (bl T.f1)).2.2.2 || T.f4))
  else true
theorem teqP (s : ByteArray) (l : List UInt8) : (s.toList == l) = decide (bl s = l) := by
  rw [ByteArray.toList_eq, Bool.eq_iff_iff]; simp

set_option maxHeartbeats 4000000 in
set_option maxRecDepth 100000 in
theorem begins_calls (T : S62) (W : World) (hP : LaidP W) :
    Calls Tryz.prog 53 #[.agg #[.int .u8 T.f0, .string T.f1, .int .i64 T.f2, .int .i64 T.f3, .bool T.f4]] W fun e w' => e = .returned (.bool (begM T)) ∧ Below W.heap.size W w' := by
  have hu49 := Tryz.underlying62
  have hb : Below W.heap.size W (W.alloc (.cells #[.int .u8 T.f0, .string T.f1, .int .i64 T.f2, .int .i64 T.f3, .bool T.f4] 62)) := (Below.refl _ W).alloc (Nat.le_refl _) _
  obtain ⟨B, hB⟩ : ∃ B, begM T = B := ⟨_, rfl⟩
  unfold begM at hB
  rw [show begM T = B from hB]
  by_cases k6 : T.f0 = 6
  · have e6 : (T.f0 == 6) = true := by simp [k6]
    rw [if_pos (.inl k6)] at hB
    subst hB
    clear k6
    go_enter Tryz.func53, Tryz.ntmps53
    go_wp2
    go_ret
    exact ⟨rfl, hb⟩
  have e6 : (T.f0 == 6) = false := by simp [k6]
  by_cases k7 : T.f0 = 7
  · have e7 : (T.f0 == 7) = true := by simp [k7]
    rw [if_pos (.inr k7)] at hB
    subst hB
    clear k6 k7
    go_enter Tryz.func53, Tryz.ntmps53
    go_wp2
    go_ret
    exact ⟨rfl, hb⟩
  have e7 : (T.f0 == 7) = false := by simp [k7]
  rw [if_neg (fun h => h.elim k6 k7)] at hB
  clear k6 k7
  by_cases k5 : T.f0 = 5
  · have e5 : (T.f0 == 5) = true := by simp [k5]
    rw [if_pos k5] at hB
    have s1 := teqP T.f1 [40]
    have s2 := teqP T.f1 [91]
    obtain ⟨p, hp⟩ : ∃ p, decide (bl T.f1 = [40]) = p := ⟨_, rfl⟩
    obtain ⟨q, hq⟩ : ∃ q, decide (bl T.f1 = [91]) = q := ⟨_, rfl⟩
    rw [hp] at s1 hB
    rw [hq] at s2 hB
    subst hB
    clear k5 hp hq
    cases p <;> cases q <;>
      (go_enter Tryz.func53, Tryz.ntmps53
       go_wp2
       go_ret
       exact ⟨rfl, hb⟩)
  have e5 : (T.f0 == 5) = false := by simp [k5]
  rw [if_neg k5] at hB
  clear k5
  by_cases k1 : T.f0 = 1
  · have e1 : (T.f0 == 1) = true := by simp [k1]
    rw [if_pos k1] at hB
    have hI := Lib.hid (fun w' (h : Below W.heap.size W w') => Infix_calls T.f1 w' (hP.below h))
    have hQ := Lib.hid (fun w' => Prefix_calls T.f1 w')
    have hT := (MapKept.heap_alloc W (.cells #[.int .u8 T.f0, .string T.f1, .int .i64 T.f2, .int .i64 T.f3, .bool T.f4] 62)).1
    have hl : W.heap.size < (W.alloc (.cells #[.int .u8 T.f0, .string T.f1, .int .i64 T.f2, .int .i64 T.f3, .bool T.f4] 62)).heap.size := by rw [World.size_alloc]; exact Nat.lt_succ_self _
    obtain ⟨⟨i1, i2, i3, i4⟩, hi⟩ : ∃ r, infR (bl T.f1) = r := ⟨_, rfl⟩
    obtain ⟨⟨q1, q2, q3, q4⟩, hq⟩ : ∃ r, preR (bl T.f1) = r := ⟨_, rfl⟩
    rw [hi] at hI hB
    rw [hq] at hQ hB
    have hB : (!i4 || (q4 || T.f4)) = B := hB
    obtain ⟨o4, ho4⟩ : ∃ o, T.f4 = o := ⟨_, rfl⟩
    have HO := Lib.hid ho4
    subst hB
    clear k1 hi hq ho4
    rw [HO.out] at hT hl hb ⊢
    cases i4 <;> cases q4 <;>
      (go_enter Tryz.func53, Tryz.ntmps53
       go_wp2_with fail
       refine (hI.out _ hb).mono ?_
       rintro e w1 ⟨rfl, hb1⟩
       have hT1 := (hb1.block W.heap.size hl).trans hT
       have hB1 := hb.trans (hb1.mono hb.size)
       have hl1 := Nat.lt_of_lt_of_le hl hb1.size
       have c1 := Lib.cell_of_heap hT1 1
       go_wp2_with fail
       refine (hQ.out _).mono ?_
       rintro e w2 ⟨rfl, hb2⟩
       have hT2 := (hb2.block W.heap.size hl1).trans hT1
       have hB2 := hB1.trans (hb2.mono hB1.size)
       have c4 := Lib.cell_of_heap hT2 4
       go_wp2
       go_ret
       exact ⟨rfl, hB2⟩)
  have e1 : (T.f0 == 1) = false := by simp [k1]
  rw [if_neg k1] at hB
  subst hB
  clear k1
  go_enter Tryz.func53, Tryz.ntmps53
  go_wp2
  go_ret
  exact ⟨rfl, hb⟩
end Go.Proofs.YtecjdjdfikcliaaGreatDoor.Pr
