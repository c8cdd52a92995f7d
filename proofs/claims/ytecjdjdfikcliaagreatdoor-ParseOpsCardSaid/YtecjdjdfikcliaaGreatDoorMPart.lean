/- Several small texts of this claim in one. -/
import Derived.Test.YtecjdjdfikcliaaGreatDoorPRead2
import Derived.Test.YtecjdjdfikcliaaGreatDoorPOper
import Derived.Test.YtecjdjdfikcliaaGreatDoorMBuilt
import Derived.Defers
import Derived.Recover
import Derived.Laws.ResultCell
section
/-
  The reader's variable.
-/
namespace Go.Proofs.YtecjdjdfikcliaaGreatDoor.Pr
open Go Go.Proofs.YtecjdjdfikcliaaGreatDoor
open Go.RowKit Go.Proofs.YtecjdjdfikcliaaGreatDoorW.PrintWords Go.Proofs.YtecjdjdfikcliaaGreatDoorW.PrintLast Go.Proofs.YtecjdjdfikcliaaGreatDoorW.PrintMore Go.Proofs.YtecjdjdfikcliaaGreatDoor.P

/-- Where a name stands first. -/
def idxM : List ByteArray → ByteArray → Option Nat
  | [], _ => none
  | x :: l, s => if bl s = bl x then some 0 else (idxM l s).map (· + 1)
theorem idx_step (s : ByteArray) : ∀ (l : List ByteArray) (i : Nat), (∀ j (h : j < l.length), j < i → bl s ≠ bl l[j]) → (∀ h : i < l.length, bl s = bl l[i] → idxM l s = some i)
  | [], i, _, h, _ => absurd h (by simp)
  | x :: l, 0, _, h, e => by
    unfold idxM
    rw [if_pos (show bl s = bl x from e)]
  | x :: l, i + 1, hp, h, e => by
    have h0 : bl s ≠ bl x := hp 0 (by simp) (by omega)
    unfold idxM
    rw [if_neg h0, idx_step s l i (fun j hj hlt => hp (j + 1) (by simp; omega) (by omega)) (by simpa using h) e]
    rfl
theorem idx_none (s : ByteArray) : ∀ (l : List ByteArray), (∀ j (h : j < l.length), bl s ≠ bl l[j]) → idxM l s = none
  | [], _ => rfl
  | x :: l, hp => by
    unfold idxM
    rw [if_neg (show ¬ bl s = bl x from hp 0 (by simp)), idx_none s l (fun j hj => hp (j + 1) (by simp; omega))]
    rfl
theorem strEqP (s t : ByteArray) : (s.toList == t.toList) = decide (bl s = bl t) := by
  rw [ByteArray.toList_eq, ByteArray.toList_eq, Bool.eq_iff_iff]; simp
def idxV (o : Option Nat) : Int := match o with | some j => (j : Int) | none => -1

set_option maxHeartbeats 2000000 in
set_option maxRecDepth 100000 in
theorem Index_calls {W : World} {base : Nat} {ns : List ByteArray} {nv : Value} (s : ByteArray) (h : W.ownsRow base 9 1 nv ns.length (ns.map Value.string)) (hl : ns.length ≤ 32) :
    Calls Tryz.prog 72 #[nv, .string s] W fun e w' => e = .returned (.int .i64 (idxV (idxM ns s))) ∧ w' = W := by
  rcases h.2 with ⟨rfl, h0⟩ | ⟨g, cap, cur, rfl, hbg, hg, hnc, hcm, hcs, htk⟩
  · obtain rfl : ns = [] := List.length_eq_zero_iff.1 h0
    clear h0 h
    go_enter Tryz.func72, Tryz.ntmps72
    go_wp2
    go_loopw [8] (fun p wr => p = .int .i64 0 ∧ wr = W) (fun _ _ => 0)
    case atStart => exact ⟨rfl, rfl⟩
    case round =>
      obtain ⟨rfl, rfl⟩ := hrel
      go_wp2
      go_ret
      exact ⟨rfl, rfl⟩
  · have hcell : ∀ j (hj : j < ns.length), W.cell? ⟨g, j, none⟩ = some (.string ns[j]) := fun j hj => by
      rw [h.cellAt j (by omega), List.getElem?_map, List.getElem?_eq_getElem hj]
      rfl
    have HCL := Lib.hid hcell
    clear hcell h htk hcs hcm
    go_enter Tryz.func72, Tryz.ntmps72
    go_wp2
    go_loopw [5, 8] (fun _ p wr => ∃ i : Nat, p = .int .i64 i ∧ i ≤ ns.length ∧ wr = W ∧ Hid (∀ j (h : j < ns.length), j < i → bl s ≠ bl ns[j])) (fun _ p _ => ns.length - (intOf p).toNat)
    case atStart => exact ⟨0, rfl, Nat.zero_le _, rfl, fun j _ hj => absurd hj (Nat.not_lt_zero _)⟩
    case round =>
      obtain ⟨i, rfl, hi, rfl, hno⟩ := hrel
      by_cases hlt : i < ns.length
      · have hdd : decide ((i : Int) < (ns.length : Int)) = true := by simp; omega
        have c1 := HCL.out i hlt
        have hs := strEqP s ns[i]
        by_cases e : bl s = bl ns[i]
        · have he : (s.toList == ns[i].toList) = true := by rw [hs]; exact decide_eq_true e
          have hx := Lib.hid (idx_step s ns i hno.out hlt e)
          clear hs e
          go_wp2
          go_ret
          exact ⟨by rw [hx.out]; rfl, rfl⟩
        · have he : (s.toList == ns[i].toList) = false := by rw [hs]; exact decide_eq_false e
          have hno' : Hid (∀ j (h : j < ns.length), j < i + 1 → bl s ≠ bl ns[j]) := fun j hj hlt' => by
            rcases Nat.lt_or_ge j i with q | q
            · exact hno.out j hj q
            · obtain rfl : j = i := by omega
              exact e
          clear hs e
          go_wp2
          exact ⟨⟨i + 1, by simp, by omega, trivial, hno'⟩, by simp [intOf]; omega⟩
      · have hdd : decide ((i : Int) < (ns.length : Int)) = false := by simp; omega
        have hx := Lib.hid (idx_none s ns (fun j hj => hno.out j hj (by omega)))
        go_wp2
        go_ret
        exact ⟨by rw [hx.out]; rfl, rfl⟩

/-- A variable's number, and the names behind it. -/
def varM (ns : List ByteArray) (s : ByteArray) : Option (Nat × List ByteArray) :=
  match (if bl s = [95] then none else idxM ns s) with
  | some j => some (j, ns)
  | none => if ns.length = 32 then none else some (ns.length, ns ++ [s])

theorem Rd.other {W W' : World} {rb c i deep : Nat} {A : Option Addr} {toks : List S62} {ns : List ByteArray} {nv : Value} (h : Rd W rb A c toks i deep ns nv) (k0 : Nat) (hk0 : rb < k0) (hne : some k0 ≠ nv.ownBlock) (hs : ∀ k, k ≠ k0 → W'.heap[k]? = W.heap[k]?) : Rd W' rb A c toks i deep ns nv := by
  refine ⟨(hs rb (by omega)).trans h.box, Kd.F_step h.row (fun k hk _ => hs k (by omega)), ownsRow_same h.names (fun g hg => hs g (fun e => hne (by rw [← e, hg]))), h.lt, h.few, h.deep64, h.names32⟩
theorem Fr.grown {rb : Nat} {nv nv' : Value} {W W' : World} (hg : W.grownBy W' nv.ownBlock) (hn : nv'.ownBlock = nv.ownBlock ∨ nv'.ownBlock = some W.heap.size) : Fr rb nv nv' W W' :=
  ⟨hg.os, hg.tape, hg.output, hg.size, fun k hk _ h2 => hg.block k hk h2, hn.imp id (fun e => ⟨_, e, Nat.le_refl _⟩)⟩

theorem strInfo : (Tryz.prog.info? 9).map (fun i => (i.zero, i.size, i.bytes)) = some (some (.string ⟨#[]⟩), 1, 16) := by kernel_rfl

set_option maxHeartbeats 4000000 in
set_option maxRecDepth 100000 in
theorem variable_calls {W : World} {rb c i deep n : Nat} {A : Option Addr} {toks : List S62} {ns ns' : List ByteArray} {nv : Value} (s : ByteArray) (h : Rd W rb A c toks i deep ns nv) (hv : varM ns s = some (n, ns')) :
    Calls Tryz.prog 56 #[.pointer (some ⟨rb, 0, none⟩), .string s] W fun e w' => e = .returned (.agg #[.int .u8 1, .string ⟨#[]⟩, .int .i64 n, .slice none 0 0]) ∧ ∃ nv', Rd w' rb A c toks i deep ns' nv' ∧ Fr rb nv nv' W w' := by
  have hu24 := Tryz.underlying36
  obtain ⟨W0, hW0⟩ : ∃ W0, W.alloc (.cells #[.int .u8 0, .string ⟨#[]⟩, .int .i64 0, .slice none 0 0] 36) = W0 := ⟨_, rfl⟩
  have hb0 : Below W.heap.size W W0 := by rw [← hW0]; exact (Below.refl _ W).alloc (Nat.le_refl _) _
  have hT0 : W0.heap[W.heap.size]? = some (.cells #[.int .u8 0, .string ⟨#[]⟩, .int .i64 0, .slice none 0 0] 36 (0, 0)) := by rw [← hW0]; exact (MapKept.heap_alloc W _).1
  have h0 := h.below hb0
  have hi := Index_calls s h0.names h.names32
  have HI := Lib.hid hi
  have s95 := teqP s [95]
  have hrbl : rb < W.heap.size := (Array.getElem?_eq_some_iff.1 h.box).1
  have hn32 := h.names32
  unfold varM at hv
  obtain ⟨o, ho⟩ : ∃ o, idxM ns s = o := ⟨_, rfl⟩
  rw [ho] at hv HI
  obtain ⟨_, _, c0, c1, c2, c3, _⟩ := h0.cells
  have H0 := Lib.hid h0
  have HH := Lib.hid h
  by_cases hf : (bl s ≠ [95] ∧ ∃ j, o = some j)
  · obtain ⟨e95, j, rfl⟩ := hf
    rw [if_neg e95] at hv
    obtain ⟨rfl, rfl⟩ := Prod.mk.inj (Option.some.inj hv)
    rw [show idxV (some j) = (j : Int) from rfl] at HI
    have k95 : (s.toList == [95]) = false := by rw [s95]; exact decide_eq_false e95
    have kj : decide ((j : Int) < 0) = false := decide_eq_false (by omega)
    have HV := Lib.hid (V_calls (j : Int) W0)
    clear e95 s95 hv hi ho h0 h
    go_enter Tryz.func56, Tryz.ntmps56
    go_wp2_with fail
    go_at_call 72
    refine HI.out.mono ?_
    rintro e w1 ⟨rfl, rfl⟩
    go_wp2_with fail
    go_at_call 17
    refine HV.out.mono ?_
    rintro e w2 ⟨rfl, hb2⟩
    have hb02 := hb0.trans (hb2.mono hb0.size)
    have hR := (hb2.block W.heap.size (Array.getElem?_eq_some_iff.1 hT0).1).trans hT0
    have z0 := Lib.cell_of_heap hR 0
    have z1 := Lib.cell_of_heap hR 1
    have z2 := Lib.cell_of_heap hR 2
    have z3 := Lib.cell_of_heap hR 3
    have y0 := Lib.frozen_of_heap hR 0
    have y1 := Lib.frozen_of_heap hR 1
    have y2 := Lib.frozen_of_heap hR 2
    have y3 := Lib.frozen_of_heap hR 3
    go_wp2
    have hrow := setRow4 hR (.int .u8 1) (.string ⟨#[]⟩) (.int .i64 j) (.slice none 0 0)
    refine bodyPost_ret (results_cell_row rfl _ _ W.heap.size 36 _ (0, 0) _ rfl hrow.1 hu24 rfl (by kernel_rfl)) rfl ?_
    have hfin := (((hb02.setCell (p := ⟨W.heap.size, 0, none⟩) (Nat.le_refl _) (.int .u8 1)).setCell (p := ⟨W.heap.size, 1, none⟩) (Nat.le_refl _) (.string ⟨#[]⟩)).setCell (p := ⟨W.heap.size, 2, none⟩) (Nat.le_refl _) (.int .i64 j)).setCell (p := ⟨W.heap.size, 3, none⟩) (Nat.le_refl _) (.slice none 0 0)
    exact ⟨rfl, nv, HH.out.below hfin, Fr.of_below hfin⟩
  · have hv2 : (if ns.length = 32 then none else some (ns.length, ns ++ [s])) = some (n, ns') := by
      rw [← hv]
      by_cases e : bl s = [95]
      · rw [if_pos e]
      · rw [if_neg e]
        cases o with
        | none => rfl
        | some j => exact absurd ⟨e, j, rfl⟩ hf
    have n32 : ¬ ns.length = 32 := fun e => by rw [if_pos e] at hv2; cases hv2
    rw [if_neg n32] at hv2
    obtain ⟨rfl, rfl⟩ := Prod.mk.inj (Option.some.inj hv2)
    have kn : ((ns.length : Int) == 32) = false := by simp; omega
    have hcase : ((s.toList == [95]) = true) ∨ ((s.toList == [95]) = false ∧ o = none) := by
      rw [s95]
      by_cases e : bl s = [95]
      · exact .inl (decide_eq_true e)
      · refine .inr ⟨decide_eq_false e, ?_⟩
        cases o with
        | none => rfl
        | some j => exact absurd ⟨e, j, rfl⟩ hf
    clear s95 hv hv2 hi ho h0 h hf
    obtain ⟨p0, hi0, hz0, hz1, hz2⟩ := info_parts strInfo
    obtain ⟨B, c', rfl⟩ : ∃ B c', nv = .slice B ns.length c' := by
      rcases HH.out.names.2 with ⟨rfl, e⟩ | ⟨g, cap, cur, rfl, _⟩
      · exact ⟨none, 0, by rw [e]⟩
      · exact ⟨_, cap, rfl⟩
    have hbL : Below W0.heap.size W0 (W0.alloc (.cells #[.string s] 9)) := (Below.refl _ _).alloc (Nat.le_refl _) _
    have hL := H0.out.below hbL
    have hlit := (MapKept.heap_alloc W0 (.cells #[.string s] 9)).1
    have HL := Lib.hid hL
    have HLIT := Lib.hid hlit
    have HBL := Lib.hid hbL
    clear hL hlit hbL
    obtain ⟨q, hq⟩ : ∃ q, idxV o = q := ⟨_, rfl⟩
    have hqc : ((s.toList == [95]) = true) ∨ ((s.toList == [95]) = false ∧ decide (q < 0) = true) := by
      rcases hcase with e | ⟨e, rfl⟩
      · exact .inl e
      · refine .inr ⟨e, ?_⟩
        rw [← hq]
        rfl
    rw [hq] at HI
    clear hcase hq
    rcases hqc with k95 | ⟨k95, kq⟩
    · go_enter Tryz.func56, Tryz.ntmps56
      go_wp2_with fail
      go_at_call 72
      refine HI.out.mono ?_
      rintro e w1 ⟨rfl, rfl⟩
      go_wp2_with (at_builtin; refine wpList_append_own_at _ rfl _ _ 37 rfl (rb + 1) 9 p0 _ 1 16 Tryz.underlying37 hi0 hz0 hz1 hz2 rfl (by decide) (.slice B ns.length c') ns.length (ns.map Value.string) rfl HL.out.names ⟨w1.heap.size, 0, none⟩ 1 1 [.string s] rfl rfl ?hnews ?hone ?h63 ?hbytes ?hbase ?_)
      case hnews =>
        intro j u hj
        rcases j with _ | j
        · have := Lib.cell_of_heap HLIT.out 0
          simp at hj
          subst hj
          rw [show (⟨w1.heap.size, 0, none⟩ : Addr).add 0 = ⟨w1.heap.size, 0, none⟩ from rfl, this]
          rfl
        · simp at hj
      case hone => intro u hu; simp at hu; subst hu; rfl
      case h63 => unfold maxLen; omega
      case hbytes => omega
      case hbase =>
        have h1 := HBL.out.size
        have h2 := hb0.size
        omega
      intro v0' wA hown hgrow _ hown2
      obtain ⟨B2, c2, rfl⟩ : ∃ B2 c2, v0' = .slice B2 (ns.length + 1) c2 := by
        rcases hown.2 with ⟨_, e⟩ | ⟨g2, cap2, cur2, rfl, _⟩
        · exact absurd e (Nat.succ_ne_zero _)
        · exact ⟨_, cap2, rfl⟩
      have hz01 : W.heap.size < w1.heap.size := (Array.getElem?_eq_some_iff.1 hT0).1
      have hzl : w1.heap.size ≤ (w1.alloc (.cells #[.string s] 9)).heap.size := HBL.out.size
      have hne0 : ∀ k, Value.ownBlock (.slice B ns.length c') = some k → rb + 1 ≤ k ∧ k < W.heap.size := fun k hk => ⟨(ownsRow_lt HH.out.names k hk).2.1, (ownsRow_lt HH.out.names k hk).1⟩
      have hboxA := (hgrow.block rb (by omega) (fun e => by have := hne0 rb e.symm; omega)).trans HL.out.box
      have hTA := (hgrow.block W.heap.size (by omega) (fun e => by have := hne0 _ e.symm; omega)).trans ((HBL.out.block W.heap.size hz01).trans hT0)
      obtain ⟨wB, hwB⟩ : ∃ wB, wA.setCell ⟨rb, 3, none⟩ (.slice B2 (ns.length + 1) c2) = wB := ⟨_, rfl⟩
      have hboxB : wB.heap[rb]? = some (.cells #[.slice A toks.length c, .int .i64 i, .int .i64 deep, .slice B2 (ns.length + 1) c2, .int .i64 0] 60 (0, 0)) := by rw [← hwB]; exact heap_setCell_same hboxA 3 (.slice B2 (ns.length + 1) c2)
      have hothB : ∀ k, k ≠ rb → wB.heap[k]? = wA.heap[k]? := fun k hk => by rw [← hwB]; exact Below.heap_setCell _ _ _ _ hk
      have hTB := (hothB W.heap.size (by omega)).trans hTA
      have hRB : Rd wB rb A c toks i deep (ns ++ [s]) (.slice B2 (ns.length + 1) c2) := by
        refine ⟨hboxB, ?_, ?_, HH.out.lt, HH.out.few, HH.out.deep64, by rw [List.length_append, List.length_singleton]; omega⟩
        · refine Kd.F_step (Kd.F_step HL.out.row (fun k hk hlt => hgrow.block k hlt (fun e => by have := hne0 k e.symm; omega))) (fun k hk _ => hothB k (by omega))
        · have : wA.ownsRow (rb + 1) 9 1 (.slice B2 (ns.length + 1) c2) (ns ++ [s]).length ((ns ++ [s]).map Value.string) := by
            rw [List.length_append, List.map_append]
            exact hown
          exact ownsRow_same this (fun g hg => hothB g (by have := (ownsRow_lt this g hg).2.1; omega))
      have hFB : Fr rb (.slice B ns.length c') (.slice B2 (ns.length + 1) c2) W wB := by
        refine ((Fr.of_below (hb0.trans (HBL.out.mono hb0.size))).trans (Fr.grown hgrow (by rw [World.size_alloc]; exact hown2))).trans ?_
        rw [← hwB]
        exact Fr.setBox _ _ _
      have q3 : wA.cell? ⟨rb, 3, none⟩ = some (.slice B ns.length c') := Lib.cell_of_heap hboxA 3
      have q4 : wA.frozen? ⟨rb, 3, none⟩ = false := Lib.frozen_of_heap hboxA 3
      have HV := Lib.hid (V_calls (ns.length : Int) wB)
      have HRB := Lib.hid hRB
      have HFB := Lib.hid hFB
      have HTB := Lib.hid hTB
      have HOW := Lib.hid hown2
      have hv'ne : some W.heap.size ≠ Value.ownBlock (.slice B2 (ns.length + 1) c2) := by
        rcases hown2 with e | e
        · rw [e]; intro q; have := hne0 _ q.symm; omega
        · rw [e]; intro q; injection q with q; omega
      have HNE := Lib.hid hv'ne
      clear hRB hFB hTB hboxA hboxB hothB hTA hgrow hown2 hown hv'ne HL HLIT HBL
      go_wp2_with fail
      go_at_call 17
      refine HV.out.mono ?_
      rintro e w2 ⟨rfl, hb2⟩
      have hlB : W.heap.size < wB.heap.size := (Array.getElem?_eq_some_iff.1 HTB.out).1
      have hR := (hb2.block W.heap.size hlB).trans HTB.out
      have z0 := Lib.cell_of_heap hR 0
      have z1 := Lib.cell_of_heap hR 1
      have z2 := Lib.cell_of_heap hR 2
      have z3 := Lib.cell_of_heap hR 3
      have y0 := Lib.frozen_of_heap hR 0
      have y1 := Lib.frozen_of_heap hR 1
      have y2 := Lib.frozen_of_heap hR 2
      have y3 := Lib.frozen_of_heap hR 3
      go_wp2
      have hrow := setRow4 hR (.int .u8 1) (.string ⟨#[]⟩) (.int .i64 (ns.length : Int)) (.slice none 0 0)
      refine bodyPost_ret (results_cell_row rfl _ _ W.heap.size 36 _ (0, 0) _ rfl hrow.1 hu24 rfl (by kernel_rfl)) rfl ?_
      have hF2 := HFB.out.trans (Fr.of_below hb2)
      refine ⟨rfl, .slice B2 (ns.length + 1) c2, (HRB.out.below hb2).other W.heap.size hrbl HNE.out hrow.2, hF2.os, hF2.tape, hF2.output, by simpa [World.setCell] using hF2.size, fun k hk h1 h2 => (hrow.2 k (by omega)).trans (hF2.block k hk h1 h2), hF2.nb⟩
    · go_enter Tryz.func56, Tryz.ntmps56
      go_wp2_with fail
      go_at_call 72
      refine HI.out.mono ?_
      rintro e w1 ⟨rfl, rfl⟩
      go_wp2_with (at_builtin; refine wpList_append_own_at _ rfl _ _ 37 rfl (rb + 1) 9 p0 _ 1 16 Tryz.underlying37 hi0 hz0 hz1 hz2 rfl (by decide) (.slice B ns.length c') ns.length (ns.map Value.string) rfl HL.out.names ⟨w1.heap.size, 0, none⟩ 1 1 [.string s] rfl rfl ?hnews ?hone ?h63 ?hbytes ?hbase ?_)
      case hnews =>
        intro j u hj
        rcases j with _ | j
        · have := Lib.cell_of_heap HLIT.out 0
          simp at hj
          subst hj
          rw [show (⟨w1.heap.size, 0, none⟩ : Addr).add 0 = ⟨w1.heap.size, 0, none⟩ from rfl, this]
          rfl
        · simp at hj
      case hone => intro u hu; simp at hu; subst hu; rfl
      case h63 => unfold maxLen; omega
      case hbytes => omega
      case hbase =>
        have h1 := HBL.out.size
        have h2 := hb0.size
        omega
      intro v0' wA hown hgrow _ hown2
      obtain ⟨B2, c2, rfl⟩ : ∃ B2 c2, v0' = .slice B2 (ns.length + 1) c2 := by
        rcases hown.2 with ⟨_, e⟩ | ⟨g2, cap2, cur2, rfl, _⟩
        · exact absurd e (Nat.succ_ne_zero _)
        · exact ⟨_, cap2, rfl⟩
      have hz01 : W.heap.size < w1.heap.size := (Array.getElem?_eq_some_iff.1 hT0).1
      have hzl : w1.heap.size ≤ (w1.alloc (.cells #[.string s] 9)).heap.size := HBL.out.size
      have hne0 : ∀ k, Value.ownBlock (.slice B ns.length c') = some k → rb + 1 ≤ k ∧ k < W.heap.size := fun k hk => ⟨(ownsRow_lt HH.out.names k hk).2.1, (ownsRow_lt HH.out.names k hk).1⟩
      have hboxA := (hgrow.block rb (by omega) (fun e => by have := hne0 rb e.symm; omega)).trans HL.out.box
      have hTA := (hgrow.block W.heap.size (by omega) (fun e => by have := hne0 _ e.symm; omega)).trans ((HBL.out.block W.heap.size hz01).trans hT0)
      obtain ⟨wB, hwB⟩ : ∃ wB, wA.setCell ⟨rb, 3, none⟩ (.slice B2 (ns.length + 1) c2) = wB := ⟨_, rfl⟩
      have hboxB : wB.heap[rb]? = some (.cells #[.slice A toks.length c, .int .i64 i, .int .i64 deep, .slice B2 (ns.length + 1) c2, .int .i64 0] 60 (0, 0)) := by rw [← hwB]; exact heap_setCell_same hboxA 3 (.slice B2 (ns.length + 1) c2)
      have hothB : ∀ k, k ≠ rb → wB.heap[k]? = wA.heap[k]? := fun k hk => by rw [← hwB]; exact Below.heap_setCell _ _ _ _ hk
      have hTB := (hothB W.heap.size (by omega)).trans hTA
      have hRB : Rd wB rb A c toks i deep (ns ++ [s]) (.slice B2 (ns.length + 1) c2) := by
        refine ⟨hboxB, ?_, ?_, HH.out.lt, HH.out.few, HH.out.deep64, by rw [List.length_append, List.length_singleton]; omega⟩
        · refine Kd.F_step (Kd.F_step HL.out.row (fun k hk hlt => hgrow.block k hlt (fun e => by have := hne0 k e.symm; omega))) (fun k hk _ => hothB k (by omega))
        · have : wA.ownsRow (rb + 1) 9 1 (.slice B2 (ns.length + 1) c2) (ns ++ [s]).length ((ns ++ [s]).map Value.string) := by
            rw [List.length_append, List.map_append]
            exact hown
          exact ownsRow_same this (fun g hg => hothB g (by have := (ownsRow_lt this g hg).2.1; omega))
      have hFB : Fr rb (.slice B ns.length c') (.slice B2 (ns.length + 1) c2) W wB := by
        refine ((Fr.of_below (hb0.trans (HBL.out.mono hb0.size))).trans (Fr.grown hgrow (by rw [World.size_alloc]; exact hown2))).trans ?_
        rw [← hwB]
        exact Fr.setBox _ _ _
      have q3 : wA.cell? ⟨rb, 3, none⟩ = some (.slice B ns.length c') := Lib.cell_of_heap hboxA 3
      have q4 : wA.frozen? ⟨rb, 3, none⟩ = false := Lib.frozen_of_heap hboxA 3
      have HV := Lib.hid (V_calls (ns.length : Int) wB)
      have HRB := Lib.hid hRB
      have HFB := Lib.hid hFB
      have HTB := Lib.hid hTB
      have HOW := Lib.hid hown2
      have hv'ne : some W.heap.size ≠ Value.ownBlock (.slice B2 (ns.length + 1) c2) := by
        rcases hown2 with e | e
        · rw [e]; intro q; have := hne0 _ q.symm; omega
        · rw [e]; intro q; injection q with q; omega
      have HNE := Lib.hid hv'ne
      clear hRB hFB hTB hboxA hboxB hothB hTA hgrow hown2 hown hv'ne HL HLIT HBL
      go_wp2_with fail
      go_at_call 17
      refine HV.out.mono ?_
      rintro e w2 ⟨rfl, hb2⟩
      have hlB : W.heap.size < wB.heap.size := (Array.getElem?_eq_some_iff.1 HTB.out).1
      have hR := (hb2.block W.heap.size hlB).trans HTB.out
      have z0 := Lib.cell_of_heap hR 0
      have z1 := Lib.cell_of_heap hR 1
      have z2 := Lib.cell_of_heap hR 2
      have z3 := Lib.cell_of_heap hR 3
      have y0 := Lib.frozen_of_heap hR 0
      have y1 := Lib.frozen_of_heap hR 1
      have y2 := Lib.frozen_of_heap hR 2
      have y3 := Lib.frozen_of_heap hR 3
      go_wp2
      have hrow := setRow4 hR (.int .u8 1) (.string ⟨#[]⟩) (.int .i64 (ns.length : Int)) (.slice none 0 0)
      refine bodyPost_ret (results_cell_row rfl _ _ W.heap.size 36 _ (0, 0) _ rfl hrow.1 hu24 rfl (by kernel_rfl)) rfl ?_
      have hF2 := HFB.out.trans (Fr.of_below hb2)
      refine ⟨rfl, .slice B2 (ns.length + 1) c2, (HRB.out.below hb2).other W.heap.size hrbl HNE.out hrow.2, hF2.os, hF2.tape, hF2.output, by simpa [World.setCell] using hF2.size, fun k hk h1 h2 => (hrow.2 k (by omega)).trans (hF2.block k hk h1 h2), hF2.nb⟩
end Go.Proofs.YtecjdjdfikcliaaGreatDoor.Pr
end
section
/-
  The parser's rounds, in plain Lean: what is served is what comes to a term of atoms, variables, structures and infix operators (no lists, signs, prefix operators, no errors within a term: not yet).
-/
namespace Go.Proofs.YtecjdjdfikcliaaGreatDoor.Pr
open Go Go.Proofs.YtecjdjdfikcliaaGreatDoor
open Go.RowKit Go.Proofs.YtecjdjdfikcliaaGreatDoorW.PrintWords Go.Proofs.YtecjdjdfikcliaaGreatDoorW.PrintLast Go.Proofs.YtecjdjdfikcliaaGreatDoorW.PrintMore Go.Proofs.YtecjdjdfikcliaaGreatDoor.P

/-- The token at a place. -/
def tk (toks : List S62) (i : Nat) : S62 := toks.getD i z62
theorem tk_eq (toks : List S62) (i : Nat) (h : i < toks.length) : tk toks i = toks[i] := by
  unfold tk
  rw [List.getD_eq_getElem?_getD, List.getElem?_eq_getElem h]
  rfl
/-- Is the token a sign? -/
def isT (T : S62) (c : List UInt8) : Bool := decide (T.f0 = 5) && decide (bl T.f1 = c)
/-- A structure, within bounds. -/
def bltM (s : ByteArray) (l : List S36) : Option S36 := if l.length ≤ 16 ∧ depT (mkF s l) ≤ 64 ∧ szT (mkF s l) ≤ 1000000 then some (mkF s l) else none

mutual
def termM (toks : List S62) : Nat → Nat → Int → Nat → List ByteArray → Option (S36 × Nat × List ByteArray)
  | 0, _, _, _, _ => none
  | k + 1, d, p, i, ns => (primM toks k d p i ns).bind fun r => loopM toks k d p r.1 r.2.1 r.2.2.1 r.2.2.2
def loopM (toks : List S62) : Nat → Nat → Int → S36 → Int → Nat → List ByteArray → Option (S36 × Nat × List ByteArray)
  | 0, _, _, _, _, _, _ => none
  | k + 1, d, p, x, had, i, ns =>
    if (opAt (tk toks i)).2.2 = false ∨ (opAt (tk toks i)).2.1.1 > p ∨ had > (opAt (tk toks i)).2.1.2.1 then some (x, i, ns)
    else if ¬ i + 1 < toks.length then none
    else (termM toks k d (opAt (tk toks i)).2.1.2.2 (i + 1) ns).bind fun r => if r.2.1 ≤ i then none else (bltM (opAt (tk toks i)).1 [x, r.1]).bind fun z => loopM toks k d p z (opAt (tk toks i)).2.1.1 r.2.1 r.2.2
def primM (toks : List S62) : Nat → Nat → Int → Nat → List ByteArray → Option (S36 × Int × Nat × List ByteArray)
  | 0, _, _, _, _ => none
  | k + 1, d, p, i, ns =>
    if begM (tk toks i) = false ∨ d + 1 > 64 ∨ ¬ i + 2 < toks.length then none
    else if (tk toks i).f0 = 3 then (varM ns (tk toks i).f1).bind fun r => some (⟨1, ⟨#[]⟩, r.1, []⟩, 0, i + 1, r.2)
    else if (tk toks i).f0 = 1 then
      if (tk toks i).f4 = true then
        (partM toks k (d + 1) (i + 2) ns).bind fun r => if isT (tk toks r.2.1) [41] = true ∧ r.2.1 + 1 < toks.length then (bltM (tk toks i).f1 r.1).bind fun z => some (z, 0, r.2.1 + 1, r.2.2) else none
      else if bl (tk toks i).f1 = [45] ∨ (preR (bl (tk toks i).f1)).2.2.2 = true then none
      else some (⟨3, (tk toks i).f1, 0, []⟩, 0, i + 1, ns)
    else none
def partM (toks : List S62) : Nat → Nat → Nat → List ByteArray → Option (List S36 × Nat × List ByteArray)
  | 0, _, _, _ => none
  | k + 1, d, i, ns => (termM toks k d 999 i ns).bind fun r =>
    if r.2.1 ≤ i then none
    else if isT (tk toks r.2.1) [44] = true then (if r.2.1 + 1 < toks.length then (partM toks k d (r.2.1 + 1) r.2.2).bind fun q => some (r.1 :: q.1, q.2.1, q.2.2) else none)
    else some ([r.1], r.2.1, r.2.2)
end
end Go.Proofs.YtecjdjdfikcliaaGreatDoor.Pr
end
section
/-
  The reader's parted, where a term is served.
-/
namespace Go.Proofs.YtecjdjdfikcliaaGreatDoor.Pr
open Go Go.Proofs.YtecjdjdfikcliaaGreatDoor
open Go.RowKit Go.Proofs.YtecjdjdfikcliaaGreatDoorW.PrintWords Go.Proofs.YtecjdjdfikcliaaGreatDoorW.PrintLast Go.Proofs.YtecjdjdfikcliaaGreatDoorW.PrintMore Go.Proofs.YtecjdjdfikcliaaGreatDoor.P

/-- A term that k rounds serve is read. -/
def TermOK (w0 : World) (rb : Nat) (A : Option Addr) (c : Nat) (toks : List S62) (k : Nat) : Prop :=
  ∀ (d : Nat) (p : Int) (i : Nat) (ns : List ByteArray) (x : S36) (i' : Nat) (ns' : List ByteArray) (W : World) (nv : Value), termM toks k d p i ns = some (x, i', ns') → Rd W rb A c toks i d ns nv → Below w0.heap.size w0 W →
    Calls Tryz.prog 22 #[.pointer (some ⟨rb, 0, none⟩), .int .i64 p] W fun e w' => ∃ v nv', e = .returned v ∧ Rd w' rb A c toks i' d ns' nv' ∧ Fr rb nv nv' W w' ∧ TermF w' (Ap W.heap.size rb nv') x v

theorem Rd.own {W : World} {rb c i deep : Nat} {A : Option Addr} {toks : List S62} {ns : List ByteArray} {nv : Value} (h : Rd W rb A c toks i deep ns nv) (k : Nat) (hk : nv.ownBlock = some k) : rb < k ∧ k < W.heap.size := by
  have := ownsRow_lt h.names k hk
  exact ⟨this.2.1, this.1⟩
theorem Rd.rbl {W : World} {rb c i deep : Nat} {A : Option Addr} {toks : List S62} {ns : List ByteArray} {nv : Value} (h : Rd W rb A c toks i deep ns nv) : rb < W.heap.size := (Array.getElem?_eq_some_iff.1 h.box).1
theorem Fr.base {w0 W W' : World} {rb c i deep : Nat} {A : Option Addr} {toks : List S62} {ns : List ByteArray} {nv nv' : Value} (hb : Below w0.heap.size w0 W) (h : Rd W rb A c toks i deep ns nv) (hrb : w0.heap.size ≤ rb) (f : Fr rb nv nv' W W') : Below w0.heap.size w0 W' :=
  ⟨f.os.trans hb.os, f.tape.trans hb.tape, f.output.trans hb.output, Nat.le_trans hb.size f.size, fun k hk => (f.block k (by have := h.rbl; omega) (by omega) (fun e => by have := (h.own k e.symm).1; omega)).trans (hb.block k hk)⟩

theorem isT_eq (T : S62) (c : ByteArray) : (decide (T.f0 = 5) && (T.f1.toList == c.toList)) = isT T (bl c) := by
  unfold isT
  rw [show (T.f1.toList == c.toList) = decide (bl T.f1 = bl c) from strEqP T.f1 c]

set_option maxHeartbeats 2000000 in
set_option maxRecDepth 100000 in
theorem next_false {W : World} {rb c i deep b1 : Nat} {A : Option Addr} {toks : List S62} {ns : List ByteArray} {nv : Value} (h : Rd W rb A c toks i deep ns nv) (hb1 : W.cell? ⟨b1, 0, none⟩ = some (.pointer (some ⟨rb, 0, none⟩))) (ht : isT (tk toks i) [44] = false) :
    Calls Tryz.prog 74 #[.pointer (some ⟨b1, 0, none⟩)] W fun e w' => e = .returned (.bool false) ∧ Below W.heap.size W w' := by
  have hi := is_calls ⟨#[44]⟩ h
  rw [isT_eq, ← tk_eq toks i h.lt, show bl (⟨#[44]⟩ : ByteArray) = [44] from rfl, ht] at hi
  have HI := Lib.hid hi
  clear hi ht
  go_enter Tryz.func74, Tryz.ntmps74
  go_wp2_with fail
  refine HI.out.mono ?_
  rintro e w1 ⟨rfl, hb⟩
  go_wp2
  go_ret
  exact ⟨rfl, hb⟩
set_option maxHeartbeats 2000000 in
set_option maxRecDepth 100000 in
theorem next_true {W : World} {rb c i deep b1 : Nat} {A : Option Addr} {toks : List S62} {ns : List ByteArray} {nv : Value} (h : Rd W rb A c toks i deep ns nv) (hb1 : W.cell? ⟨b1, 0, none⟩ = some (.pointer (some ⟨rb, 0, none⟩))) (ht : isT (tk toks i) [44] = true) (hl : i + 1 < toks.length) :
    Calls Tryz.prog 74 #[.pointer (some ⟨b1, 0, none⟩)] W fun e w' => e = .returned (.bool true) ∧ Rd w' rb A c toks (i + 1) deep ns nv ∧ Fr rb nv nv W w' := by
  have hi := is_calls ⟨#[44]⟩ h
  rw [isT_eq, ← tk_eq toks i h.lt, show bl (⟨#[44]⟩ : ByteArray) = [44] from rfl, ht] at hi
  have HI := Lib.hid hi
  have hfew := h.few
  have HH := Lib.hid h
  clear hi ht h
  go_enter Tryz.func74, Tryz.ntmps74
  go_wp2_with fail
  refine HI.out.mono ?_
  rintro e w1 ⟨rfl, hb⟩
  have h1 := HH.out.below hb
  have f1 : w1.frozen? ⟨rb, 1, none⟩ = false := Lib.frozen_of_heap h1.box 1
  have c1 : w1.cell? ⟨rb, 1, none⟩ = some (.int .i64 i) := Lib.cell_of_heap h1.box 1
  have c2 : w1.cell? ⟨b1, 0, none⟩ = some (.pointer (some ⟨rb, 0, none⟩)) := (hb.cell (World.block_lt_of_cell? W _ hb1)).trans hb1
  have H1 := Lib.hid h1
  clear h1
  go_wp2
  go_ret
  exact ⟨rfl, H1.out.setI (i + 1) hl, (Fr.of_below hb).trans (Fr.setBox _ _ _)⟩

/-- What has been read of a row. -/
def OutR (W : World) (base : Nat) (ok : Nat → Prop) (v : Value) (l : List S36) : Prop := ∃ inner, W.ownsRow base 36 4 v l.length inner ∧ Reps (fun x cs => Kd.FK k36 W (fun k => ok k ∧ some k ≠ v.ownBlock) x cs) 4 l inner
theorem OutR.nil (W : World) (base : Nat) (ok : Nat → Prop) : OutR W base ok (.slice none 0 0) [] := ⟨[], World.ownsRow_nil _ _ _ _, Reps.none _ _⟩
theorem OutR.lt {W : World} {base : Nat} {ok : Nat → Prop} {v : Value} {l : List S36} (h : OutR W base ok v l) (k : Nat) (hk : v.ownBlock = some k) : base ≤ k ∧ k < W.heap.size ∧ ∃ cs, W.heap[k]? = some (.cells cs 36 (0, 0)) := by
  obtain ⟨inner, ho, _⟩ := h
  have := ownsRow_lt ho k hk
  exact ⟨this.2.1, this.1, this.2.2⟩
theorem OutR.form {W : World} {base : Nat} {ok : Nat → Prop} {v : Value} {l : List S36} (h : OutR W base ok v l) : ∃ B c, v = .slice B l.length c ∧ l.length ≤ c := by
  obtain ⟨inner, ho, hr⟩ := h
  obtain ⟨B, c, e, hc, _⟩ := OwnRow.reads (R := fun x cs => Kd.FK k36 W (fun k => ok k ∧ some k ≠ v.ownBlock) x cs) ⟨inner, ho, hr⟩
  exact ⟨B, c, e, hc⟩
/-- It stays while the reader goes on. -/
theorem OutR.fr {W W' : World} {N rb base c i deep : Nat} {A : Option Addr} {toks : List S62} {ns : List ByteArray} {nv nv' v : Value} {l : List S36} (h : OutR W base (Ap N rb nv) v l) (hr : Rd W rb A c toks i deep ns nv) (hb : rb < base) (f : Fr rb nv nv' W W') : OutR W' base (Ap N rb nv') v l := by
  have hlt := h.lt
  obtain ⟨inner, ho, hrep⟩ := h
  have hne : ∀ k, v.ownBlock = some k → some k ≠ nv.ownBlock := fun k hk e => by
    obtain ⟨_, _, cs, hcs⟩ := hlt k hk
    obtain ⟨_, _, cs', hcs'⟩ := ownsRow_lt hr.names k e.symm
    rw [hcs] at hcs'
    injection hcs' with hcs'
    injection hcs' with _ ht _
    exact absurd ht (by decide)
  refine ⟨inner, ownsRow_same ho (fun k hk => f.block k (hlt k hk).2.1 (by have := (hlt k hk).1; omega) (hne k hk)), hrep.imp_ (fun x cs hx => ?_)⟩
  refine Kd.FK_mono (Kd.FK_step (Kd.FK_bound hx) (fun k hk hl => f.block k hl hk.1.1.2.1 hk.1.1.2.2)) ?_
  rintro k ⟨⟨⟨h0, h1, h2⟩, h3⟩, h4⟩
  refine ⟨⟨h0, h1, ?_⟩, h3⟩
  rcases f.nb with e | ⟨q, e, hq⟩
  · rw [e]; exact h2
  · rw [e]; intro he; injection he with he; omega

/-- One more. -/
theorem OutR.push {w2 wA : World} {N rb base : Nat} {nv v v' : Value} {acc : List S36} {x : S36} {A3 : Option Addr} {c3 : Nat} {inner : List Value}
    (hrep : Reps (fun x cs => Kd.FK k36 w2 (fun k => Ap N rb nv k ∧ some k ≠ v.ownBlock) x cs) 4 acc inner)
    (hx : x.f3.length ≤ c3 ∧ Kd.F k36 w2 (Ap N rb nv) A3 x.f3.length x.f3) (hxn : Kd.F k36 w2 (fun k => Ap N rb nv k ∧ some k ≠ v.ownBlock) A3 x.f3.length x.f3)
    (hown : wA.ownsRow base 36 4 v' (acc.length + 1) (inner ++ [.int .u8 x.f0, .string x.f1, .int .i64 x.f2, .slice A3 x.f3.length c3])) (hk : ∀ k, k < w2.heap.size → some k ≠ v.ownBlock → wA.heap[k]? = w2.heap[k]?)
    (hn : v'.ownBlock = v.ownBlock ∨ ∃ q, v'.ownBlock = some q ∧ w2.heap.size ≤ q) : OutR wA base (Ap N rb nv) v' (acc ++ [x]) := by
  have step : ∀ (y : S36) (cs : List Value), Kd.FK k36 w2 (fun k => Ap N rb nv k ∧ some k ≠ v.ownBlock) y cs → Kd.FK k36 wA (fun k => Ap N rb nv k ∧ some k ≠ v'.ownBlock) y cs := fun y cs h => by
    refine Kd.FK_mono (Kd.FK_step (Kd.FK_bound h) (fun k hk1 hl => hk k hl hk1.1.2)) ?_
    rintro k ⟨⟨h1, h2⟩, h3⟩
    refine ⟨h1, ?_⟩
    rcases hn with e | ⟨q, e, hq⟩
    · rw [e]; exact h2
    · rw [e]; intro he; injection he with he; omega
  refine ⟨_, by rw [List.length_append, List.length_singleton]; exact hown, Reps.snoc (hrep.imp_ step) (step x _ (fun W2 hW => k36_mk W2 x hx.1 (hxn W2 hW))) rfl⟩

/-- How far the reading of a row is from its end. -/
def mP (n rb : Nat) (v : Value) (w : World) : Nat := match v with | .bool true => n + 1 - (intOf ((w.cell? ⟨rb, 1, none⟩).getD .nilIface)).toNat | _ => 0
end Go.Proofs.YtecjdjdfikcliaaGreatDoor.Pr
end
section
/-
  The reader's parted: the walk.
-/
namespace Go.Proofs.YtecjdjdfikcliaaGreatDoor.Pr
open Go Go.Proofs.YtecjdjdfikcliaaGreatDoor
open Go.RowKit Go.Proofs.YtecjdjdfikcliaaGreatDoorW.PrintWords Go.Proofs.YtecjdjdfikcliaaGreatDoorW.PrintLast Go.Proofs.YtecjdjdfikcliaaGreatDoorW.PrintMore Go.Proofs.YtecjdjdfikcliaaGreatDoor.P

/-- The reader stays while another row is written. -/
theorem Rd.keep {W W' : World} {rb c i deep : Nat} {A : Option Addr} {toks : List S62} {ns : List ByteArray} {nv : Value} (h : Rd W rb A c toks i deep ns nv) (row : Option Nat) (hk : ∀ k, k < W.heap.size → some k ≠ row → W'.heap[k]? = W.heap[k]?)
    (hrow : ∀ g, row = some g → rb < g ∧ (g < W.heap.size → ∃ cs, W.heap[g]? = some (.cells cs 36 (0, 0)))) : Rd W' rb A c toks i deep ns nv := by
  have hl := h.rbl
  refine ⟨(hk rb hl (fun e => by have := (hrow rb e.symm).1; omega)).trans h.box, Kd.F_step h.row (fun k hk' hlt => hk k hlt (fun e => by have := (hrow k e.symm).1; omega)), ownsRow_same h.names (fun g hg => ?_), h.lt, h.few, h.deep64, h.names32⟩
  obtain ⟨hgl, _, cs, hcs⟩ := ownsRow_lt h.names g hg
  refine hk g hgl (fun e => ?_)
  obtain ⟨cs', hcs'⟩ := (hrow g e.symm).2 hgl
  rw [hcs] at hcs'
  injection hcs' with hcs'
  injection hcs' with _ ht _
  exact absurd ht (by decide)

/-- A box of another type is not the names' row. -/
theorem box_ne {W : World} {rb c i deep b : Nat} {A : Option Addr} {toks : List S62} {ns : List ByteArray} {nv v : Value} (h : Rd W rb A c toks i deep ns nv) (hb : W.heap[b]? = some (.cells #[v] 58 (0, 0))) : some b ≠ nv.ownBlock := fun e => by
  obtain ⟨_, _, cs, hcs⟩ := ownsRow_lt h.names b e.symm
  rw [hb] at hcs
  injection hcs with hcs
  injection hcs with _ ht _
  exact absurd ht (by decide)

set_option maxHeartbeats 8000000 in
set_option maxRecDepth 100000 in
theorem parted_calls {w0 : World} {rb : Nat} {A : Option Addr} {c : Nat} {toks : List S62} (hrb : w0.heap.size ≤ rb) {k : Nat} (hT : ∀ j, j < k → TermOK w0 rb A c toks j) (d i : Nat) (ns : List ByteArray) (l : List S36) (i' : Nat) (ns' : List ByteArray) (W : World) (nv : Value)
    (hp : partM toks k d i ns = some (l, i', ns')) (h : Rd W rb A c toks i d ns nv) (hw : Below w0.heap.size w0 W) :
    Calls Tryz.prog 59 #[.pointer (some ⟨rb, 0, none⟩)] W fun e w' => ∃ v nv', e = .returned v ∧ Rd w' rb A c toks i' d ns' nv' ∧ Fr rb nv nv' W w' ∧ OutR w' (W.heap.size + 1) (Ap W.heap.size rb nv') v l := by
  have hu24 := Tryz.underlying36
  obtain ⟨i0, hi, hz0, hz1, hz2⟩ := info_parts termInfo
  obtain ⟨W0, hW0⟩ : ∃ W0, W.alloc (.cells #[.pointer (some ⟨rb, 0, none⟩)] 58) = W0 := ⟨_, rfl⟩
  have hb0 : Below W.heap.size W W0 := by rw [← hW0]; exact (Below.refl _ W).alloc (Nat.le_refl _) _
  have hB0 : W0.heap[W.heap.size]? = some (.cells #[.pointer (some ⟨rb, 0, none⟩)] 58 (0, 0)) := by rw [← hW0]; exact (MapKept.heap_alloc W _).1
  have HP := Lib.hid hp
  have HH := Lib.hid h
  have hfew := h.few
  have hrbl := h.rbl
  clear hp h
  go_enter Tryz.func59, Tryz.ntmps59
  go_wp2
  go_loopw [3, 5] (fun v3 v5 wr => ∃ (acc : List S36) (i1 : Nat) (ns1 : List ByteArray) (nv1 : Value), OutR wr (W.heap.size + 1) (Ap W.heap.size rb nv1) v3 acc ∧ acc.length ≤ i1 ∧ Rd wr rb A c toks i1 d ns1 nv1 ∧ Fr rb nv nv1 W wr ∧
      wr.heap[W.heap.size]? = some (.cells #[.pointer (some ⟨rb, 0, none⟩)] 58 (0, 0)) ∧
      ((v5 = .bool true ∧ Hid (∃ k' rest, k' ≤ k ∧ partM toks k' d i1 ns1 = some (rest, i', ns') ∧ acc ++ rest = l)) ∨ (v5 = .bool false ∧ Hid (acc = l ∧ i1 = i' ∧ ns1 = ns')))) (fun _ v5 wr => mP toks.length rb v5 wr)
  case atStart => exact ⟨[], i, ns, nv, OutR.nil _ _ _, Nat.zero_le _, HH.out.below hb0, Fr.of_below hb0, hB0, .inl ⟨rfl, k, l, Nat.le_refl _, HP.out, rfl⟩⟩
  case round =>
    obtain ⟨acc, i1, ns1, nv1, hout, hal, hr, hf, hbx, hcase⟩ := hrel
    rcases hcase with ⟨rfl, hpp⟩ | ⟨rfl, hend⟩
    · obtain ⟨k', rest, hk', hpm, happ⟩ := hpp.out
      cases k' with
      | zero => rw [partM] at hpm; cases hpm
      | succ j =>
        rw [partM] at hpm
        cases ht : termM toks j d 999 i1 ns1 with
        | none => rw [ht] at hpm; cases hpm
        | some r =>
          obtain ⟨x, i2, ns2⟩ := r
          rw [ht, Option.bind_some] at hpm
          simp only [] at hpm
          by_cases hle : i2 ≤ i1
          · rw [if_pos hle] at hpm; cases hpm
          rw [if_neg hle] at hpm
          have hterm := hT j (by omega) d 999 i1 ns1 x i2 ns2 _ nv1 ht hr (Fr.base hw HH.out hrb hf)
          have b1 := Lib.cell_of_heap hbx 0
          obtain ⟨B, cc, rfl, hcc⟩ := hout.form
          have HTM := Lib.hid hterm
          have HPM := Lib.hid hpm
          have HAPP := Lib.hid happ
          have HOUT := Lib.hid hout
          have HR := Lib.hid hr
          have HF := Lib.hid hf
          have hi1 := hr.lt
          have c1r := Lib.hid (Lib.cell_of_heap hr.box 1)
          clear hterm hpm happ hout hr hf ht hpp
          go_wp2_with fail
          go_at_call 22
          refine HTM.out.mono ?_
          rintro e w2 ⟨v, nv2, rfl, h2, f2, hx⟩
          obtain ⟨A3, c3, rfl, hc3, hF3⟩ := hx
          have hbrw : W.heap.size < W0.heap.size := (Array.getElem?_eq_some_iff.1 hB0).1
          have hwr : W.heap.size + 1 ≤ wr.heap.size := (Array.getElem?_eq_some_iff.1 hbx).1
          have hbx2 : w2.heap[W.heap.size]? = some (.cells #[.pointer (some ⟨rb, 0, none⟩)] 58 (0, 0)) := (f2.block W.heap.size hwr (by omega) (box_ne HR.out hbx)).trans hbx
          have out2 := HOUT.out.fr HR.out (by omega) f2
          obtain ⟨inner, ho2, hrep2⟩ := out2
          have hlt2 : ∀ g, Value.ownBlock (.slice B acc.length cc) = some g → W.heap.size + 1 ≤ g ∧ g < wr.heap.size := fun g hg => ⟨(HOUT.out.lt g hg).1, (HOUT.out.lt g hg).2.1⟩
          obtain ⟨wl, hwl⟩ : ∃ wl, w2.alloc (.cells #[.int .u8 x.f0, .string x.f1, .int .i64 x.f2, .slice A3 x.f3.length c3] 36) = wl := ⟨_, rfl⟩
          have hbl : Below w2.heap.size w2 wl := by rw [← hwl]; exact (Below.refl _ _).alloc (Nat.le_refl _) _
          have hlit : wl.heap[w2.heap.size]? = some (.cells #[.int .u8 x.f0, .string x.f1, .int .i64 x.f2, .slice A3 x.f3.length c3] 36 (0, 0)) := by rw [← hwl]; exact (MapKept.heap_alloc w2 _).1
          have HSL : Hid (wl.heap.size = w2.heap.size + 1) := by rw [← hwl]; exact World.size_alloc _ _
          have hol : wl.ownsRow (W.heap.size + 1) 36 4 (.slice B acc.length cc) acc.length inner := ownsRow_same ho2 (fun g hg => hbl.block g (ownsRow_lt ho2 g hg).1)
          have HOL := Lib.hid hol
          have HLIT := Lib.hid hlit
          have HREP := Lib.hid hrep2
          have HX := Lib.hid (show x.f3.length ≤ c3 ∧ Kd.F k36 w2 (Ap wr.heap.size rb nv2) A3 x.f3.length x.f3 from ⟨hc3, hF3⟩)
          have HF2 := Lib.hid (HF.out.trans f2)
          have H2 := Lib.hid h2
          have hsz2 := f2.size
          have HO2 := Lib.hid ho2
          clear hol hlit hrep2 hF3 ho2 f2 h2 HTM
          go_wp2_with (at_builtin; refine wpList_append_own_at _ rfl _ _ 34 rfl (W.heap.size + 1) 36 i0 _ 4 56 Tryz.underlying34 hi hz0 hz1 hz2 rfl (by decide) (.slice B acc.length cc) acc.length inner rfl HOL.out ⟨w2.heap.size, 0, none⟩ 1 1 [.int .u8 x.f0, .string x.f1, .int .i64 x.f2, .slice A3 x.f3.length c3] rfl rfl ?hnews ?hone ?h63 ?hbytes ?hbase ?_)
          case hnews =>
            intro q u hq
            rw [Addr.add_lit, Nat.zero_add, Lib.cell_of_heap HLIT.out q]
            simpa using hq
          case hone => intro u hu; simp at hu; rcases hu with rfl | rfl | rfl | rfl <;> rfl
          case h63 => unfold maxLen; omega
          case hbytes => omega
          case hbase => have := HSL.out; omega
          intro v0' wA hown hgrow _ hown2
          obtain ⟨B2, c2, rfl⟩ : ∃ B2 c2, v0' = .slice B2 (acc.length + 1) c2 := by
            rcases hown.2 with ⟨_, e⟩ | ⟨g2, cap2, cur2, rfl, _⟩
            · exact absurd e (Nat.succ_ne_zero _)
            · exact ⟨_, cap2, rfl⟩
          have hkA : ∀ q, q < w2.heap.size → some q ≠ Value.ownBlock (.slice B acc.length cc) → wA.heap[q]? = w2.heap[q]? := fun q hq hne => (hgrow.block q (by have := HSL.out; omega) hne).trans (hbl.block q hq)
          have hsA : w2.heap.size ≤ wA.heap.size := by have := hgrow.size; have := HSL.out; omega
          have hAp : ∀ q, Ap wr.heap.size rb nv2 q → Ap W.heap.size rb nv2 q ∧ some q ≠ Value.ownBlock (.slice B acc.length cc) := fun q hq => ⟨⟨by have := hq.1; omega, hq.2.1, hq.2.2⟩, fun e => by have := (hlt2 q e.symm).2; have := hq.1; omega⟩
          have hout3 : OutR wA (W.heap.size + 1) (Ap W.heap.size rb nv2) (.slice B2 (acc.length + 1) c2) (acc ++ [x]) := by
            refine OutR.push HREP.out ⟨HX.out.1, Kd.F_mono HX.out.2 (fun q hq => (hAp q hq).1)⟩ (Kd.F_mono HX.out.2 hAp) hown hkA ?_
            rcases hown2 with e | e
            · exact .inl e
            · exact .inr ⟨_, e, by have := HSL.out; omega⟩
          have hRA : Rd wA rb A c toks i2 d ns2 nv2 := H2.out.keep _ hkA (fun g hg => ⟨by have := (hlt2 g hg).1; omega, fun _ => (ownsRow_lt HO2.out g hg).2.2⟩)
          have hFA : Fr rb nv nv2 W wA := by
            have F := HF2.out
            refine ⟨hgrow.os.trans (hbl.os.trans F.os), hgrow.tape.trans (hbl.tape.trans F.tape), hgrow.output.trans (hbl.output.trans F.output), Nat.le_trans F.size hsA, fun q hq h1 h2 => (hkA q (Nat.lt_of_lt_of_le hq F.size) (fun e => by have := (hlt2 q e.symm).1; omega)).trans (F.block q hq h1 h2), F.nb⟩
          have hbxA : wA.heap[W.heap.size]? = some (.cells #[.pointer (some ⟨rb, 0, none⟩)] 58 (0, 0)) := (hkA W.heap.size (Array.getElem?_eq_some_iff.1 hbx2).1 (fun e => by have := (hlt2 _ e.symm).1; omega)).trans hbx2
          have b1A := Lib.cell_of_heap hbxA 0
          have hlA : (acc ++ [x]).length ≤ i2 := by rw [List.length_append, List.length_singleton]; omega
          have HO3 := Lib.hid hout3
          have HRA := Lib.hid hRA
          have HFA := Lib.hid hFA
          have HBA := Lib.hid hbxA
          clear hout3 hRA hFA hbxA hgrow hown hown2 hkA hAp HREP HX HOL HLIT HO2
          have hpm2 := HPM.out
          cases ht2 : isT (tk toks i2) [44] with
          | true =>
            rw [ht2, if_pos rfl] at hpm2
            by_cases hl2 : i2 + 1 < toks.length
            · rw [if_pos hl2] at hpm2
              cases hq : partM toks j d (i2 + 1) ns2 with
              | none => rw [hq] at hpm2; cases hpm2
              | some r2 =>
                obtain ⟨rest', i3, ns3⟩ := r2
                rw [hq, Option.bind_some] at hpm2
                obtain ⟨rfl, e2⟩ := Prod.mk.inj (Option.some.inj hpm2)
                obtain ⟨rfl, rfl⟩ := Prod.mk.inj e2
                have hnx := next_true HRA.out b1A ht2 hl2
                have HNX := Lib.hid hnx
                have HQ := Lib.hid hq
                have HT2 := Lib.hid ht2
                clear hnx hpm2 e2 hq ht2
                go_wp2_with fail
                go_at_call 74
                refine HNX.out.mono ?_
                rintro e w4 ⟨rfl, h4, f4⟩
                go_wp2
                have hbxl := (Array.getElem?_eq_some_iff.1 HBA.out).1
                refine ⟨⟨acc ++ [x], i2 + 1, ns2, nv2, HO3.out.fr HRA.out (by omega) f4, by omega, h4, HFA.out.trans f4, (f4.block W.heap.size hbxl (by omega) (box_ne HRA.out HBA.out)).trans HBA.out, .inl ⟨rfl, j, rest', by omega, HQ.out, by rw [List.append_assoc]; exact HAPP.out⟩⟩, ?_⟩
                unfold mP
                rw [c1r.out, Lib.cell_of_heap h4.box 1]
                simp [intOf]
                omega
            · rw [if_neg hl2] at hpm2; cases hpm2
          | false =>
            rw [ht2, if_neg (by decide)] at hpm2
            obtain ⟨rfl, e2⟩ := Prod.mk.inj (Option.some.inj hpm2)
            obtain ⟨rfl, rfl⟩ := Prod.mk.inj e2
            have hnx := next_false HRA.out b1A ht2
            have HNX := Lib.hid hnx
            clear hnx hpm2 e2 ht2
            go_wp2_with fail
            go_at_call 74
            refine HNX.out.mono ?_
            rintro e w4 ⟨rfl, hb4⟩
            go_wp2
            have hbxl := (Array.getElem?_eq_some_iff.1 HBA.out).1
            refine ⟨⟨acc ++ [x], i2, ns2, nv2, HO3.out.fr HRA.out (by omega) (Fr.of_below hb4), hlA, HRA.out.below hb4, HFA.out.trans (Fr.of_below hb4), (hb4.block W.heap.size hbxl).trans HBA.out, .inr ⟨rfl, HAPP.out, rfl, rfl⟩⟩, ?_⟩
            unfold mP
            rw [c1r.out]
            simp [intOf]
            omega
    · obtain ⟨rfl, rfl, rfl⟩ := hend.out
      have HOUT := Lib.hid hout
      have HR := Lib.hid hr
      have HF := Lib.hid hf
      clear hout hr hf hend
      go_wp2
      go_ret
      exact ⟨_, nv1, rfl, HR.out, HF.out, HOUT.out⟩
end Go.Proofs.YtecjdjdfikcliaaGreatDoor.Pr
end
section
/-
  The reader's primary: what is deferred.
-/
namespace Go.Proofs.YtecjdjdfikcliaaGreatDoor.Pr
open Go Go.Proofs.YtecjdjdfikcliaaGreatDoor
open Go.RowKit Go.Proofs.YtecjdjdfikcliaaGreatDoorW.PrintWords Go.Proofs.YtecjdjdfikcliaaGreatDoorW.PrintLast Go.Proofs.YtecjdjdfikcliaaGreatDoorW.PrintMore Go.Proofs.YtecjdjdfikcliaaGreatDoor.P

set_option maxHeartbeats 2000000 in
set_option maxRecDepth 100000 in
theorem deepDown_calls {W : World} {rb c i deep b2 : Nat} {A : Option Addr} {toks : List S62} {ns : List ByteArray} {nv : Value} (u : FrameMode) (h : Rd W rb A c toks i (deep + 1) ns nv) (hb2 : W.cell? ⟨b2, 0, none⟩ = some (.pointer (some ⟨rb, 0, none⟩))) :
    CallsD Tryz.prog 54 #[.pointer (some ⟨b2, 0, none⟩)] u W fun e u' w' => u' = u ∧ e = .returned (.tuple #[]) ∧ w' = W.setCell ⟨rb, 2, none⟩ (.int .i64 deep) := by
  have f2 : W.frozen? ⟨rb, 2, none⟩ = false := Lib.frozen_of_heap h.box 2
  have c2 : W.cell? ⟨rb, 2, none⟩ = some (.int .i64 ((deep + 1 : Nat) : Int)) := Lib.cell_of_heap h.box 2
  have hd := h.deep64
  have e1 : (((deep + 1 : Nat) : Int)) - 1 = (deep : Int) := by omega
  go_enter_d Tryz.func54, Tryz.ntmps54
  go_wp2
  go_end0
  exact ⟨rfl, rfl⟩

theorem type_ne' {W : World} {rb c i deep b t : Nat} {A : Option Addr} {toks : List S62} {ns : List ByteArray} {nv : Value} {cs : Array Value} (h : Rd W rb A c toks i deep ns nv) (hb : W.heap[b]? = some (.cells cs t (0, 0))) (ht : t ≠ 9) : some b ≠ nv.ownBlock := fun e => by
  obtain ⟨_, _, cs', hcs⟩ := ownsRow_lt h.names b e.symm
  rw [hb] at hcs
  injection hcs with hcs
  injection hcs with _ h2 _
  exact ht h2
/-- A younger box written. -/
theorem Fr.set4 {rb g : Nat} {nv nv' : Value} {W w8 w9 : World} (h : Fr rb nv nv' W w8) (hk : ∀ k, k ≠ g → w9.heap[k]? = w8.heap[k]?) (hg : W.heap.size ≤ g) (hs : w9.os = w8.os ∧ w9.tape = w8.tape ∧ w9.output = w8.output ∧ w9.heap.size = w8.heap.size) : Fr rb nv nv' W w9 :=
  ⟨hs.1.trans h.os, hs.2.1.trans h.tape, hs.2.2.1.trans h.output, by rw [hs.2.2.2]; exact h.size, fun q hq h1 h2 => (hk q (by omega)).trans (h.block q hq h1 h2), h.nb⟩

theorem bltM_parts {s : ByteArray} {l : List S36} {z : S36} (h : bltM s l = some z) : l.length ≤ 16 ∧ depT (mkF s l) ≤ 64 ∧ szT (mkF s l) ≤ 1000000 ∧ mkF s l = z := by
  unfold bltM at h
  split at h
  · rename_i q
    exact ⟨q.1, q.2.1, q.2.2, Option.some.inj h⟩
  · cases h
/-- What has been read of a row, as a row that is read. -/
theorem OutR.reads {W : World} {base : Nat} {ok : Nat → Prop} {v : Value} {l : List S36} (h : OutR W base ok v l) : ∃ A c, v = .slice A l.length c ∧ l.length ≤ c ∧ Kd.F k36 W (fun k => ((ok k ∧ some k ≠ v.ownBlock) ∧ k < W.heap.size) ∨ some k = v.ownBlock) A l.length l := by
  obtain ⟨inner, hown, hrep⟩ := h
  obtain ⟨A, c, rfl, hc, _⟩ := OwnRow.reads (R := fun x cs => Kd.FK k36 W (fun k => ok k ∧ some k ≠ v.ownBlock) x cs) ⟨inner, hown, hrep⟩
  refine ⟨A, c, rfl, hc, fun W' hW => ?_⟩
  have hown' : W'.ownsRow base 36 4 (.slice A l.length c) l.length inner := own_move hown (fun k hk => hW k (.inr hk.symm) (ownsRow_lt hown k hk).1)
  have hrep' : Reps (k36.K W') 4 l inner := hrep.imp_ (fun x c hx => (Kd.FK_bound hx) W' (fun k hk hlt => hW k (.inl hk) hlt))
  obtain ⟨A2, c2, he, _, hR⟩ := OwnRow.reads (R := k36.K W') ⟨inner, hown', hrep'⟩
  injection he with ha _ _
  subst ha
  exact hR

theorem results_row_tmp {P : Program} {fn : Func} {p u : Tmp} {ty : TypeId} (h : fn.results = #[.cell p ty, .tmp u]) (tmps : Array Value) (w : World) (g : Nat) (t : TypeId) (cs : Array Value) (fr : Nat × Nat) (d : TypeDesc)
    (hp : tmps.getD p undef = .pointer (some ⟨g, 0, none⟩)) (hg : w.heap[g]? = some (.cells cs t fr))
    (hu : P.underlying ty = some d) (hd : (match d with | .struct _ | .array _ _ => true | _ => false) = true) (hi : (P.info? ty).map (·.size) = some cs.size) :
    (results fn tmps).run P w = .ok (.tuple #[.agg cs, tmps.getD u undef]) w := by
  rw [results_cell_tmp h, hp]
  simp [asAddr, run_loadVar_row w g t ty cs fr d hg hu hd hi, Result.andThen]

/-- The way out of primary: what is deferred, and the result. -/
theorem prim_leaves {wz : World} {rb c i d cb g : Nat} {A : Option Addr} {toks : List S62} {ns : List ByteArray} {nv v0 v1 v2 v3 vh : Value} {tmps : Array Value} {R : Ending → World → Prop} (hR : Rd wz rb A c toks i (d + 1) ns nv) (hcb : wz.heap[cb]? = some (.cells #[.pointer (some ⟨rb, 0, none⟩)] 58 (0, 0)))
    (hz : wz.heap[g]? = some (.cells #[v0, v1, v2, v3] 36 (0, 0))) (hg : g ≠ rb) (hp : tmps.getD 4 undef = .pointer (some ⟨g, 0, none⟩)) (h5 : tmps.getD 5 undef = vh) (hfin : R (.returned (.tuple #[.agg #[v0, v1, v2, v3], vh])) (wz.setCell ⟨rb, 2, none⟩ (.int .i64 d))) :
    Leaves Tryz.prog Tryz.f34 tmps R [{ target := .fn (.func 54) #[.pointer (some ⟨cb, 0, none⟩)], args := #[] }] .returning wz := by
  refine leaves_cons (f := 54) (args := #[.pointer (some ⟨cb, 0, none⟩)]) (by simp) (by simp [go_sem]) ?_
  refine (deepDown_calls .returning hR (Lib.cell_of_heap hcb 0)).mono ?_
  rintro e u' w'' ⟨rfl, rfl, rfl⟩
  refine ⟨_, results_row_tmp rfl _ _ g 36 #[v0, v1, v2, v3] (0, 0) _ hp ((Below.heap_setCell _ _ _ _ hg).trans hz) Tryz.underlying36 rfl (by kernel_rfl), ?_⟩
  rw [h5]
  exact hfin
end Go.Proofs.YtecjdjdfikcliaaGreatDoor.Pr
end
