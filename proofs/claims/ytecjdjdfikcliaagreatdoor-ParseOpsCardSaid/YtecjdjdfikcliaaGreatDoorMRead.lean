/- Several small texts of this claim in one. -/
import Derived.Test.YtecjdjdfikcliaaGreatDoorP0
import Derived.Laws.EntriesVeiled
import Derived.Deep.RegionHeld3
import Derived.Deep.RegionLaw
section
/-
  Terms as values, and term.V, term.A, term.I, term.F, for the parser (the writer's texts are not wanted here).
-/
namespace Go.Proofs.YtecjdjdfikcliaaGreatDoor.Pr
open Go Go.Proofs.YtecjdjdfikcliaaGreatDoor
open Go.RowKit Go.Proofs.YtecjdjdfikcliaaGreatDoorW.PrintWords Go.Proofs.YtecjdjdfikcliaaGreatDoorW.PrintLast Go.Proofs.YtecjdjdfikcliaaGreatDoorW.PrintMore Go.Proofs.YtecjdjdfikcliaaGreatDoor.P

theorem rd_at (xs : List S36) (i : Nat) (h : i < xs.length) : rd_T36 xs (i : Int) = xs[i] := by
  unfold rd_T36
  simp [List.getD_eq_getElem?_getD, h]
/-- A term as a value whose Args are read in a world. -/
def TermV (w : World) (x : S36) (v : Value) : Prop := ∃ A c, v = .agg #[.int .u8 x.f0, .string x.f1, .int .i64 x.f2, .slice A x.f3.length c] ∧ x.f3.length ≤ c ∧ Kd.C k36 w A x.f3.length x.f3
theorem TermV.below {w w' : World} {x : S36} {v : Value} (h : TermV w x v) (hb : Below w.heap.size w w') : TermV w' x v := by
  obtain ⟨A, c, rfl, hc, hr⟩ := h
  exact ⟨A, c, rfl, hc, Kd.C_below hr hb⟩
theorem ownsRow_same {w w' : World} {base : Nat} {e : TypeId} {size n : Nat} {v : Value} {xs : List Value} (h : w.ownsRow base e size v n xs) (hk : ∀ g, v.ownBlock = some g → w'.heap[g]? = w.heap[g]?) : w'.ownsRow base e size v n xs := by
  obtain ⟨hl, hr⟩ := h
  refine ⟨hl, ?_⟩
  rcases hr with hr | ⟨g, cap, cur, rfl, hb, hg, rest⟩
  · exact .inl hr
  · exact .inr ⟨g, cap, cur, rfl, hb, (hk g rfl).trans hg, rest⟩
theorem ownsRow_lt {w : World} {base : Nat} {e : TypeId} {size n : Nat} {v : Value} {xs : List Value} (h : w.ownsRow base e size v n xs) : ∀ g, v.ownBlock = some g → g < w.heap.size ∧ base ≤ g ∧ ∃ c, w.heap[g]? = some (.cells c e (0, 0)) := by
  intro g hg
  rcases h.2 with ⟨rfl, _⟩ | ⟨g', cap, cur, rfl, hb, hgg, _⟩
  · simp [Value.ownBlock] at hg
  · simp [Value.ownBlock] at hg
    subst hg
    exact ⟨(Array.getElem?_eq_some_iff.1 hgg).1, hb, _, hgg⟩
theorem heap_setCell_same {W : World} {b : Nat} {c : Array Value} {t : TypeId} {f : Nat × Nat} (h : W.heap[b]? = some (.cells c t f)) (j : Nat) (v : Value) : (W.setCell ⟨b, j, none⟩ v).heap[b]? = some (.cells (c.setIfInBounds j v) t f) := by
  simp [World.setCell, Array.getElem?_modify, h]
/-- A struct of four cells stored. -/
theorem setRow4 {W : World} {b : Nat} {a0 a1 a2 a3 : Value} {t : TypeId} {f : Nat × Nat} (h : W.heap[b]? = some (.cells #[a0, a1, a2, a3] t f)) (v0 v1 v2 v3 : Value) :
    ((((W.setCell ⟨b, 0, none⟩ v0).setCell ⟨b, 1, none⟩ v1).setCell ⟨b, 2, none⟩ v2).setCell ⟨b, 3, none⟩ v3).heap[b]? = some (.cells #[v0, v1, v2, v3] t f) ∧
    ∀ k, k ≠ b → ((((W.setCell ⟨b, 0, none⟩ v0).setCell ⟨b, 1, none⟩ v1).setCell ⟨b, 2, none⟩ v2).setCell ⟨b, 3, none⟩ v3).heap[k]? = W.heap[k]? := by
  refine ⟨?_, fun k hk => ?_⟩
  · exact heap_setCell_same (heap_setCell_same (heap_setCell_same (heap_setCell_same h 0 v0) 1 v1) 2 v2) 3 v3
  · rw [Below.heap_setCell _ _ _ _ hk, Below.heap_setCell _ _ _ _ hk, Below.heap_setCell _ _ _ _ hk, Below.heap_setCell _ _ _ _ hk]
theorem termInfo : (Tryz.prog.info? 36).map (fun i => (i.zero, i.size, i.bytes)) = some (some (.agg #[.int .u8 0, .string ⟨#[]⟩, .int .i64 0, .slice none 0 0]), 4, 56) := by kernel_rfl

theorem C_nil (w : World) : Kd.C k36 w none 0 [] := ⟨rfl, by decide, fun h => absurd h (Nat.lt_irrefl _)⟩

/-- A term's four cells, one behind the other with others'. -/
def cellsOf : List (S36 × Option Addr × Nat) → List Value
  | [] => []
  | p :: l => [.int .u8 p.1.f0, .string p.1.f1, .int .i64 p.1.f2, .slice p.2.1 p.1.f3.length p.2.2] ++ cellsOf l
theorem cellsOf_reps (w : World) : ∀ (l : List (S36 × Option Addr × Nat)), (∀ p ∈ l, p.1.f3.length ≤ p.2.2 ∧ Kd.C k36 w p.2.1 p.1.f3.length p.1.f3) → Reps (k36.K w) 4 (l.map (·.1)) (cellsOf l)
  | [], _ => Reps.none _ _
  | p :: l, h => by
    have h1 := h p (by simp)
    have ih := cellsOf_reps w l (fun q hq => h q (by simp [hq]))
    have hk : k36.K w p.1 [.int .u8 p.1.f0, .string p.1.f1, .int .i64 p.1.f2, .slice p.2.1 p.1.f3.length p.2.2] := k36_mk w p.1 h1.1 h1.2
    have h0 : Reps (k36.K w) 4 [p.1] [.int .u8 p.1.f0, .string p.1.f1, .int .i64 p.1.f2, .slice p.2.1 p.1.f3.length p.2.2] := by
      have := Reps.snoc (Reps.none (k36.K w) 4) hk rfl
      exact this
    exact Kd.reps_append h0 ih
set_option maxRecDepth 100000 in
theorem V_calls (n : Int) (w : World) : Calls Tryz.prog 17 #[.int .i64 n] w fun e w' => e = .returned (.agg #[.int .u8 1, .string ⟨#[]⟩, .int .i64 n, .slice none 0 0]) ∧ Below w.heap.size w w' := by
  have hu24 := Tryz.underlying36
  go_enter Tryz.func17, Tryz.ntmps17
  go_wp2
  have hrow := (MapKept.heap_alloc w (.cells #[.int .u8 1, .string ⟨#[]⟩, .int .i64 n, .slice none 0 0] 36)).1
  refine bodyPost_ret (results_cell_row rfl _ _ w.heap.size 36 _ (0, 0) _ rfl hrow hu24 rfl (by kernel_rfl)) rfl ?_
  exact ⟨rfl, (Below.refl _ w).alloc (Nat.le_refl _) _⟩
set_option maxRecDepth 100000 in
theorem I_calls (n : Int) (w : World) : Calls Tryz.prog 55 #[.int .i64 n] w fun e w' => e = .returned (.agg #[.int .u8 2, .string ⟨#[]⟩, .int .i64 n, .slice none 0 0]) ∧ Below w.heap.size w w' := by
  have hu24 := Tryz.underlying36
  go_enter Tryz.func55, Tryz.ntmps55
  go_wp2
  have hrow := (MapKept.heap_alloc w (.cells #[.int .u8 2, .string ⟨#[]⟩, .int .i64 n, .slice none 0 0] 36)).1
  refine bodyPost_ret (results_cell_row rfl _ _ w.heap.size 36 _ (0, 0) _ rfl hrow hu24 rfl (by kernel_rfl)) rfl ?_
  exact ⟨rfl, (Below.refl _ w).alloc (Nat.le_refl _) _⟩
set_option maxRecDepth 100000 in
theorem A_calls (s : ByteArray) (w : World) : Calls Tryz.prog 16 #[.string s] w fun e w' => e = .returned (.agg #[.int .u8 3, .string s, .int .i64 0, .slice none 0 0]) ∧ Below w.heap.size w w' := by
  have hu24 := Tryz.underlying36
  go_enter Tryz.func16, Tryz.ntmps16
  go_wp2
  have hrow := (MapKept.heap_alloc w (.cells #[.int .u8 3, .string s, .int .i64 0, .slice none 0 0] 36)).1
  refine bodyPost_ret (results_cell_row rfl _ _ w.heap.size 36 _ (0, 0) _ rfl hrow hu24 rfl (by kernel_rfl)) rfl ?_
  exact ⟨rfl, (Below.refl _ w).alloc (Nat.le_refl _) _⟩
/-- What F makes. -/
def mkF (s : ByteArray) (l : List S36) : S36 := if l.isEmpty = true then ⟨3, s, 0, []⟩ else ⟨4, s, 0, l⟩

theorem heap24 : Kd.Heap k36 := Kd.heap_fix (fun _ hd => Kd.heap_iso _ (Kd.heap_pair (Kd.heap_int _) (Kd.heap_pair Kd.heap_string (Kd.heap_pair (Kd.heap_int _) (Kd.heap_slice 36 hd)))))

/-- A term as a value, and what it leads to lies in ok. -/
def TermF (w : World) (ok : Nat → Prop) (x : S36) (v : Value) : Prop := ∃ A c, v = .agg #[.int .u8 x.f0, .string x.f1, .int .i64 x.f2, .slice A x.f3.length c] ∧ x.f3.length ≤ c ∧ Kd.F k36 w ok A x.f3.length x.f3
section
variable {w w1 : World} {ok ok' : Nat → Prop} {x : S36} {v : Value}
theorem TermF.now (h : TermF w ok x v) : TermV w x v := by
  obtain ⟨A, c, rfl, hc, hF⟩ := h
  exact ⟨A, c, rfl, hc, Kd.F_now hF⟩
theorem TermF.mono (h : TermF w ok x v) (hok : ∀ k, ok k → ok' k) : TermF w ok' x v := by
  obtain ⟨A, c, rfl, hc, hF⟩ := h
  exact ⟨A, c, rfl, hc, Kd.F_mono hF hok⟩
theorem TermF.bound (h : TermF w ok x v) : TermF w (fun k => ok k ∧ k < w.heap.size) x v := by
  obtain ⟨A, c, rfl, hc, hF⟩ := h
  exact ⟨A, c, rfl, hc, Kd.F_bound hF⟩
theorem TermF.step (h : TermF w ok x v) (hm : ∀ k, ok k → k < w.heap.size → w1.heap[k]? = w.heap[k]?) : TermF w1 ok x v := by
  obtain ⟨A, c, rfl, hc, hF⟩ := h
  exact ⟨A, c, rfl, hc, Kd.F_step hF hm⟩
theorem TermF.below (h : TermF w ok x v) (hb : Below w.heap.size w w1) : TermF w1 ok x v := h.step (fun k _ hlt => hb.block k hlt)
theorem TermF.of_V (h : TermV w x v) : TermF w (fun k => k < w.heap.size) x v := by
  obtain ⟨A, c, rfl, hc, hC⟩ := h
  exact ⟨A, c, rfl, hc, Kd.C_F heap24 hC⟩
theorem TermF.nil (f0 : Int) (f1 : ByteArray) (f2 : Int) : TermF w ok ⟨f0, f1, f2, []⟩ (.agg #[.int .u8 f0, .string f1, .int .i64 f2, .slice none 0 0]) := ⟨none, 0, rfl, Nat.le_refl _, Kd.F_nil k36 w ok⟩
end

theorem cellsOf_repsF (w : World) (ok : Nat → Prop) : ∀ (l : List (S36 × Option Addr × Nat)), (∀ p ∈ l, p.1.f3.length ≤ p.2.2 ∧ Kd.F k36 w ok p.2.1 p.1.f3.length p.1.f3) → Reps (fun x c => Kd.FK k36 w ok x c) 4 (l.map (·.1)) (cellsOf l)
  | [], _ => Reps.none _ _
  | p :: l, h => by
    have h1 := h p (by simp)
    have ih := cellsOf_repsF w ok l (fun q hq => h q (by simp [hq]))
    have hk : Kd.FK k36 w ok p.1 [.int .u8 p.1.f0, .string p.1.f1, .int .i64 p.1.f2, .slice p.2.1 p.1.f3.length p.2.2] := fun W2 hW => k36_mk W2 p.1 h1.1 (h1.2 W2 hW)
    have h0 : Reps (fun x c => Kd.FK k36 w ok x c) 4 [p.1] [.int .u8 p.1.f0, .string p.1.f1, .int .i64 p.1.f2, .slice p.2.1 p.1.f3.length p.2.2] := by
      have := Reps.snoc (Reps.none (fun x c => Kd.FK k36 w ok x c) 4) hk rfl
      exact this
    exact Kd.reps_append h0 ih

/-- A row of the call's own over elements that stay. -/
theorem own_F {w w1 : World} {ok : Nat → Prop} {base n : Nat} {v : Value} {l : List S36} {inner : List Value} (hown : w1.ownsRow base 36 4 v l.length inner) (hrep : Reps (fun x c => Kd.FK k36 w ok x c) 4 l inner)
    (hb : Below w.heap.size w w1) (hbase : n ≤ base) : ∃ A c, v = .slice A l.length c ∧ l.length ≤ c ∧ Kd.F k36 w1 (fun k => (ok k ∧ k < w.heap.size) ∨ n ≤ k) A l.length l := by
  obtain ⟨A, c, rfl, hc, _⟩ := OwnRow.reads (R := fun x c => Kd.FK k36 w ok x c) ⟨inner, hown, hrep⟩
  refine ⟨A, c, rfl, hc, fun W' hW => ?_⟩
  have hown' : W'.ownsRow base 36 4 (.slice A l.length c) l.length inner := own_move hown (fun k hk => hW k (.inr (Nat.le_trans hbase (ownsRow_lt hown k hk).2.1)) (ownsRow_lt hown k hk).1)
  have hrep' : Reps (k36.K W') 4 l inner := hrep.imp_ (fun x c hx => (Kd.FK_bound hx) W' (fun k hk hlt => (hW k (.inl hk) (Nat.lt_of_lt_of_le hlt hb.size)).trans (hb.block k hlt)))
  obtain ⟨A2, c2, he, _, hR⟩ := OwnRow.reads (R := k36.K W') ⟨inner, hown', hrep'⟩
  injection he with ha _ _
  subst ha
  exact hR

/-- A literal of terms. -/
theorem lit_F (w : World) (ok : Nat → Prop) (l : List (S36 × Option Addr × Nat)) (hl : l.length ≤ 1000) (h : ∀ p ∈ l, p.1.f3.length ≤ p.2.2 ∧ Kd.F k36 w ok p.2.1 p.1.f3.length p.1.f3) :
    Kd.F k36 (w.alloc (.cells (cellsOf l).toArray 36)) (fun k => (ok k ∧ k < w.heap.size) ∨ w.heap.size ≤ k) (some ⟨w.heap.size, 0, none⟩) l.length (l.map (·.1)) := by
  have hr := cellsOf_repsF w ok l h
  obtain ⟨inner, ho, hr⟩ := OwnRow.lit (e := 36) w w.heap.size hr (Nat.le_refl _) (by rw [List.length_map]; omega)
  obtain ⟨A, c, he, _, hF⟩ := own_F ho hr ((Below.refl _ w).alloc (Nat.le_refl _) _) (Nat.le_refl _)
  injection he with ha _ _
  rw [← ha, List.length_map] at hF
  exact hF

set_option maxHeartbeats 2000000 in
set_option maxRecDepth 100000 in
theorem Clone_F (A : Option Addr) (c : Nat) (l : List S36) (w : World) (ok : Nat → Prop) (hF : Kd.F k36 w ok A l.length l) (hlen : l.length ≤ 1000000) :
    Calls Tryz.prog 29 #[.slice A l.length c] w fun e w' => (∃ A' c', e = .returned (.slice A' l.length c') ∧ l.length ≤ c' ∧ Kd.F k36 w' (fun k => (ok k ∧ k < w.heap.size) ∨ w.heap.size ≤ k) A' l.length l) ∧ Below w.heap.size w w' := by
  have q22 : ∀ (w : World) (a : Option Addr) (n c n' c' : Nat), (binOp .eql 34 (.slice a n c) (.slice none n' c')).run Tryz.prog w = .ok (.bool a.isNone) w := fun w a n c n' c' => Lib.run_eql_slice_nil w _ _ a n c n' c' Tryz.underlying34
  rcases A with _ | ⟨b, off, p⟩
  · obtain rfl : l = [] := by
      rcases Nat.eq_zero_or_pos l.length with h | h
      · exact List.length_eq_zero_iff.1 h
      · obtain ⟨_, h, _⟩ := (Kd.F_now hF).2.2 h
        cases h
    clear hF hlen
    go_enter Tryz.func29, Tryz.ntmps29
    go_wp2
    go_ret
    exact ⟨⟨none, 0, rfl, Nat.le_refl _, Kd.F_nil _ _ _⟩, Below.refl _ _⟩
  · obtain ⟨news, hrep, hcells⟩ := ReadsRow.inner_ (Kd.F_rows hF)
    have hone : ∀ u ∈ news, u.oneCell' = true := by
      intro u hu
      obtain ⟨q, hq, rfl⟩ := List.mem_iff_getElem.1 hu
      have hql : q / 4 < l.length := by
        rw [Nat.div_lt_iff_lt_mul (by decide)]
        have := hrep.1
        have h4 : k36.sz = 4 := rfl
        rw [h4] at this
        omega
      have hk := Kd.FK_now (hrep.2 (q / 4) _ (List.getElem?_eq_getElem hql))
      refine k36.K_one hk _ ?_
      rw [List.mem_iff_getElem?]
      refine ⟨q % 4, ?_⟩
      show (List.take 4 (List.drop (q / 4 * 4) news))[q % 4]? = _
      rw [List.getElem?_take, if_pos (Nat.mod_lt _ (by decide)), List.getElem?_drop, Nat.mul_comm, Nat.div_add_mod, List.getElem?_eq_getElem hq]
    have hlen4 : news.length = l.length * 4 := hrep.1
    obtain ⟨i0, hi, hz0, hz1, hz2⟩ := info_parts termInfo
    have AC := Aside0.mk hcells
    have AO := Aside0.mk hone
    have AR := Aside0.mk hrep
    have AL := Aside0.mk hlen4
    clear hcells hone hrep hlen4 hF
    go_enter Tryz.func29, Tryz.ntmps29
    go_wp2_with (at_builtin; refine wpList_append_own _ rfl _ _ 34 rfl w.heap.size 36 i0 _ 4 56 Tryz.underlying34 hi hz0 hz1 hz2 rfl (by decide) _ _ _ rfl (World.ownsRow_made w #[] 0 (Nat.le_refl _) (Nat.zero_le _) (by simp)) ⟨b, off, p⟩ l.length c news rfl ?qc1 ?qc2 ?qc3 ?qc4 ?qc5 ?qc6 ?_)
    case qc1 => exact AL.out
    case qc2 =>
      intro j u hj
      exact Lib.cell?_alloc_some _ (AC.out j u hj)
    case qc3 => exact AO.out
    case qc4 => unfold maxLen; omega
    case qc5 => omega
    case qc6 => simp
    intro v' w1 hown hgrow hnil
    go_wp2
    go_ret
    have hb : Below w.heap.size w w1 := ((Below.refl _ w).alloc (Nat.le_refl _) _).grown hgrow (by simp) (by intro k hk; simp [Value.ownBlock] at hk; omega)
    have hown : w1.ownsRow w.heap.size 36 4 v' l.length news := by simpa using hown
    obtain ⟨A', c', rfl, hle, hFF⟩ := own_F (l := l) hown AR.out hb (Nat.le_refl _)
    exact ⟨⟨A', c', rfl, hle, hFF⟩, hb⟩

set_option maxHeartbeats 2000000 in
set_option maxRecDepth 100000 in
/-- term.F, of terms that stay. -/
theorem F_F (s : ByteArray) (A : Option Addr) (c : Nat) (l : List S36) (w : World) (ok : Nat → Prop) (hF : Kd.F k36 w ok A l.length l) (hlen : l.length ≤ 1000000) :
    Calls Tryz.prog 15 #[.string s, .slice A l.length c] w fun e w' => (∃ v, e = .returned v ∧ TermF w' (fun k => (ok k ∧ k < w.heap.size) ∨ w.heap.size ≤ k) (mkF s l) v) ∧ Below w.heap.size w w' := by
  have hu24 := Tryz.underlying36
  have hbx : Below w.heap.size w (w.alloc (.cells #[.int .u8 0, .string ⟨#[]⟩, .int .i64 0, .slice none 0 0] 36)) := (Below.refl _ w).alloc (Nat.le_refl _) _
  have hT := (MapKept.heap_alloc w (.cells #[.int .u8 0, .string ⟨#[]⟩, .int .i64 0, .slice none 0 0] 36)).1
  have hs1 : (w.alloc (.cells #[.int .u8 0, .string ⟨#[]⟩, .int .i64 0, .slice none 0 0] 36)).heap.size = w.heap.size + 1 := World.size_alloc _ _
  rcases l with _ | ⟨x, l⟩
  · have hA := A_calls s (w.alloc (.cells #[.int .u8 0, .string ⟨#[]⟩, .int .i64 0, .slice none 0 0] 36))
    have HA := Lib.hid hA
    clear hA hF hlen
    go_enter Tryz.func15, Tryz.ntmps15
    go_wp2_with (go_at_call 16; refine HA.out.mono ?_; rintro e w1 ⟨rfl, hb1⟩; have hT1 := (hb1.block w.heap.size (by omega)).trans hT; have a0 := Lib.frozen_of_heap hT1 0; have a1 := Lib.frozen_of_heap hT1 1; have a2 := Lib.frozen_of_heap hT1 2; have a3 := Lib.frozen_of_heap hT1 3; have b0 := Lib.cell_of_heap hT1 0; have b1 := Lib.cell_of_heap hT1 1; have b2 := Lib.cell_of_heap hT1 2; have b3 := Lib.cell_of_heap hT1 3)
    have hrow := setRow4 hT1 (.int .u8 3) (.string s) (.int .i64 0) (.slice none 0 0)
    refine bodyPost_ret (results_cell_row rfl _ _ w.heap.size 36 _ (0, 0) _ rfl hrow.1 hu24 rfl (by kernel_rfl)) rfl ?_
    refine ⟨⟨_, rfl, none, 0, rfl, Nat.le_refl _, Kd.F_nil _ _ _⟩, ?_⟩
    exact ((((hbx.trans (hb1.mono hbx.size)).setCell (Nat.le_refl _) _).setCell (Nat.le_refl _) _).setCell (Nat.le_refl _) _).setCell (Nat.le_refl _) _
  · have hN := Clone_F A c (x :: l) _ _ (Kd.F_below (Kd.F_bound hF) hbx) hlen
    have HN := Lib.hid hN
    clear hN hF hlen
    go_enter Tryz.func15, Tryz.ntmps15
    go_wp2_with (go_at_call 29; refine HN.out.mono ?_; rintro e w1 ⟨⟨A', c', rfl, hc', hC'⟩, hb1⟩; have hT1 := (hb1.block w.heap.size (by omega)).trans hT; have a0 := Lib.frozen_of_heap hT1 0; have a1 := Lib.frozen_of_heap hT1 1; have a2 := Lib.frozen_of_heap hT1 2; have a3 := Lib.frozen_of_heap hT1 3; have b0 := Lib.cell_of_heap hT1 0; have b1 := Lib.cell_of_heap hT1 1; have b2 := Lib.cell_of_heap hT1 2; have b3 := Lib.cell_of_heap hT1 3)
    have hrow := setRow4 hT1 (.int .u8 4) (.string s) (.int .i64 0) (.slice A' (x :: l).length c')
    refine bodyPost_ret (results_cell_row rfl _ _ w.heap.size 36 _ (0, 0) _ rfl hrow.1 hu24 rfl (by kernel_rfl)) rfl ?_
    refine ⟨⟨_, rfl, A', c', rfl, hc', Kd.F_mono (Kd.F_step hC' (fun k hk hlt => hrow.2 k ?_)) (fun k hk => ?_)⟩, ?_⟩
    · rcases hk with ⟨⟨_, h1⟩, _⟩ | h1
      · omega
      · omega
    · rcases hk with ⟨h1, _⟩ | h1
      · exact .inl h1
      · exact .inr (by omega)
    · exact ((((hbx.trans (hb1.mono hbx.size)).setCell (Nat.le_refl _) _).setCell (Nat.le_refl _) _).setCell (Nat.le_refl _) _).setCell (Nat.le_refl _) _
end Go.Proofs.YtecjdjdfikcliaaGreatDoor.Pr
end
section
/-
  The reader's state, and its small methods: is, fail.
-/
namespace Go.Proofs.YtecjdjdfikcliaaGreatDoor.Pr
open Go Go.Proofs.YtecjdjdfikcliaaGreatDoor
open Go.RowKit Go.Proofs.YtecjdjdfikcliaaGreatDoorW.PrintWords Go.Proofs.YtecjdjdfikcliaaGreatDoorW.PrintLast Go.Proofs.YtecjdjdfikcliaaGreatDoorW.PrintMore Go.Proofs.YtecjdjdfikcliaaGreatDoor.P

/-- The reader in a world: its box at rb, its tokens below rb, its names in a row of its own above rb. -/
structure Rd (W : World) (rb : Nat) (A : Option Addr) (c : Nat) (toks : List S62) (i deep : Nat) (ns : List ByteArray) (nv : Value) : Prop where
  box : W.heap[rb]? = some (.cells #[.slice A toks.length c, .int .i64 i, .int .i64 deep, nv, .int .i64 0] 60 (0, 0))
  row : Kd.F k62 W (fun k => k < rb) A toks.length toks
  names : W.ownsRow (rb + 1) 9 1 nv ns.length (ns.map Value.string)
  lt : i < toks.length
  few : toks.length ≤ 10000
  deep64 : deep ≤ 100
  names32 : ns.length ≤ 32

/-- All but the reader's box and its names' row is as it was. -/
structure Fr (rb : Nat) (nv nv' : Value) (W W' : World) : Prop where
  os : W'.os = W.os
  tape : W'.tape = W.tape
  output : W'.output = W.output
  size : W.heap.size ≤ W'.heap.size
  block : ∀ k, k < W.heap.size → k ≠ rb → some k ≠ nv.ownBlock → W'.heap[k]? = W.heap[k]?
  nb : nv'.ownBlock = nv.ownBlock ∨ ∃ k, nv'.ownBlock = some k ∧ W.heap.size ≤ k
theorem Fr.refl (rb : Nat) (nv : Value) (W : World) : Fr rb nv nv W W := ⟨rfl, rfl, rfl, Nat.le_refl _, fun _ _ _ _ => rfl, .inl rfl⟩
theorem Fr.trans {rb : Nat} {a b c : Value} {A B C : World} (h : Fr rb a b A B) (k : Fr rb b c B C) : Fr rb a c A C := by
  refine ⟨k.os.trans h.os, k.tape.trans h.tape, k.output.trans h.output, Nat.le_trans h.size k.size, fun j hj h1 h2 => ?_, ?_⟩
  · refine (k.block j (Nat.lt_of_lt_of_le hj h.size) h1 ?_).trans (h.block j hj h1 h2)
    rcases h.nb with e | ⟨q, e, hq⟩
    · rw [e]; exact h2
    · rw [e]; intro he; injection he with he; omega
  · rcases k.nb with e | ⟨q, e, hq⟩
    · rcases h.nb with e' | ⟨q', e', hq'⟩
      · exact .inl (e.trans e')
      · exact .inr ⟨q', e.trans e', hq'⟩
    · exact .inr ⟨q, e, Nat.le_trans h.size hq⟩
theorem Fr.of_below {rb : Nat} {nv : Value} {W W' : World} (h : Below W.heap.size W W') : Fr rb nv nv W W' := ⟨h.os, h.tape, h.output, h.size, fun k hk _ _ => h.block k hk, .inl rfl⟩
theorem Fr.setBox {rb : Nat} {nv : Value} (W : World) (j : Nat) (u : Value) : Fr rb nv nv W (W.setCell ⟨rb, j, none⟩ u) := ⟨rfl, rfl, rfl, by simp [World.setCell], fun k _ hk _ => Below.heap_setCell _ _ _ _ hk, .inl rfl⟩

/-- What lies apart from the reader, and is no elder than N. -/
def Ap (N rb : Nat) (nv : Value) : Nat → Prop := fun k => N ≤ k ∧ k ≠ rb ∧ some k ≠ nv.ownBlock
theorem TermF.fr {N rb : Nat} {nv nv' : Value} {W W' : World} {x : S36} {v : Value} (h : TermF W (Ap N rb nv) x v) (k : Fr rb nv nv' W W') : TermF W' (Ap N rb nv') x v := by
  refine (h.bound.step (fun j hj hlt => k.block j hlt hj.1.2.1 hj.1.2.2)).mono ?_
  rintro j ⟨⟨h0, h1, h2⟩, h3⟩
  refine ⟨h0, h1, ?_⟩
  rcases k.nb with e | ⟨q, e, hq⟩
  · rw [e]; exact h2
  · rw [e]; intro he; injection he with he; omega

section
variable {W W' : World} {rb c i deep : Nat} {A : Option Addr} {toks : List S62} {ns : List ByteArray} {nv : Value}
theorem Rd.below (h : Rd W rb A c toks i deep ns nv) (hb : Below W.heap.size W W') : Rd W' rb A c toks i deep ns nv := by
  have hrb := (Array.getElem?_eq_some_iff.1 h.box).1
  exact ⟨(hb.block rb hrb).trans h.box, Kd.F_below h.row hb, ownsRow_same h.names (fun g hg => hb.block g (ownsRow_lt h.names g hg).1), h.lt, h.few, h.deep64, h.names32⟩
theorem Rd.set (h : Rd W rb A c toks i deep ns nv) (i' deep' : Nat) (hi : i' < toks.length) (hd : deep' ≤ 100) (hbox : W'.heap[rb]? = some (.cells #[.slice A toks.length c, .int .i64 i', .int .i64 deep', nv, .int .i64 0] 60 (0, 0)))
    (hk : ∀ k, k ≠ rb → W'.heap[k]? = W.heap[k]?) : Rd W' rb A c toks i' deep' ns nv := by
  refine ⟨hbox, Kd.F_step h.row (fun k hk' _ => hk k (by omega)), ownsRow_same h.names (fun g hg => hk g ?_), hi, h.few, hd, h.names32⟩
  have := (ownsRow_lt h.names g hg).2.1
  omega
theorem Rd.setI (h : Rd W rb A c toks i deep ns nv) (i' : Nat) (hi : i' < toks.length) : Rd (W.setCell ⟨rb, 1, none⟩ (.int .i64 i')) rb A c toks i' deep ns nv :=
  h.set i' deep hi h.deep64 (heap_setCell_same h.box 1 _) (fun _ hk => Below.heap_setCell _ _ _ _ hk)
theorem Rd.setD (h : Rd W rb A c toks i deep ns nv) (deep' : Nat) (hd : deep' ≤ 100) : Rd (W.setCell ⟨rb, 2, none⟩ (.int .i64 deep')) rb A c toks i deep' ns nv :=
  h.set i deep' h.lt hd (heap_setCell_same h.box 2 _) (fun _ hk => Below.heap_setCell _ _ _ _ hk)
end

/-- The cells that the reader's methods read. -/
theorem Rd.cells {W : World} {rb c i deep : Nat} {A : Option Addr} {toks : List S62} {ns : List ByteArray} {nv : Value} (h : Rd W rb A c toks i deep ns nv) :
    ∃ ad, A = some ad ∧ W.cell? ⟨rb, 0, none⟩ = some (.slice (some ad) toks.length c) ∧ W.cell? ⟨rb, 1, none⟩ = some (.int .i64 i) ∧ W.cell? ⟨rb, 2, none⟩ = some (.int .i64 deep) ∧ W.cell? ⟨rb, 3, none⟩ = some nv ∧
      ∀ j (hj : j < toks.length), W.cell? (ad.add (j * 5)) = some (.int .u8 toks[j].f0) ∧ W.cell? ⟨(ad.add (j * 5)).block, (ad.add (j * 5)).off + 1, none⟩ = some (.string toks[j].f1) ∧ W.cell? ⟨(ad.add (j * 5)).block, (ad.add (j * 5)).off + 2, none⟩ = some (.int .i64 toks[j].f2) ∧
        W.cell? ⟨(ad.add (j * 5)).block, (ad.add (j * 5)).off + 3, none⟩ = some (.int .i64 toks[j].f3) ∧ W.cell? ⟨(ad.add (j * 5)).block, (ad.add (j * 5)).off + 4, none⟩ = some (.bool toks[j].f4) := by
  have hC := Kd.F_now h.row
  obtain ⟨ad, rfl, _⟩ := hC.2.2 (Nat.lt_of_le_of_lt (Nat.zero_le _) h.lt)
  refine ⟨ad, rfl, Lib.cell_of_heap h.box 0, Lib.cell_of_heap h.box 1, Lib.cell_of_heap h.box 2, Lib.cell_of_heap h.box 3, fun j hj => ?_⟩
  obtain ⟨ad', he, e⟩ := at_T62 hC (j : Int) (by omega) (by omega)
  injection he with he
  subst he
  have hr : rd_T62 toks (j : Int) = toks[j] := by
    unfold rd_T62
    simp [List.getD_eq_getElem?_getD, hj]
  rw [hr, Int.toNat_natCast] at e
  exact e

set_option maxHeartbeats 2000000 in
set_option maxRecDepth 100000 in
theorem is_calls {W : World} {rb c i deep : Nat} {A : Option Addr} {toks : List S62} {ns : List ByteArray} {nv : Value} (sign : ByteArray) (h : Rd W rb A c toks i deep ns nv) :
    Calls Tryz.prog 60 #[.pointer (some ⟨rb, 0, none⟩), .string sign] W fun e w' => e = .returned (.bool (decide ((toks[i]'h.lt).f0 = 5) && ((toks[i]'h.lt).f1.toList == sign.toList))) ∧ Below W.heap.size W w' := by
  obtain ⟨ad, rfl, c0, c1, c2, c3, hc⟩ := h.cells
  obtain ⟨t0, t1, _, _, _⟩ := hc i h.lt
  have hlt := h.lt
  have hfew := h.few
  obtain ⟨T, hT⟩ : ∃ T, toks[i]'h.lt = T := ⟨_, rfl⟩
  rw [hT] at t0 t1 ⊢
  clear hc c2 c3 hT
  by_cases k : T.f0 = 5
  · have k5 : (T.f0 == 5) = true := by simp [k]
    have hdk : Hid (decide (T.f0 = 5) = true) := decide_eq_true k
    rw [hdk.out, Bool.true_and]
    clear k
    go_enter Tryz.func60, Tryz.ntmps60
    go_wp2
    go_region
    all_goals
      go_wp2
      go_ret
      exact ⟨rfl, (Below.refl _ W).drew⟩
  · have k5 : (T.f0 == 5) = false := by simp [k]
    have hdk : Hid (decide (T.f0 = 5) = false) := decide_eq_false k
    rw [hdk.out, Bool.false_and]
    clear k
    go_enter Tryz.func60, Tryz.ntmps60
    go_wp2
    go_region
    all_goals
      go_wp2
      go_ret
      exact ⟨rfl, (Below.refl _ W).drew⟩
end Go.Proofs.YtecjdjdfikcliaaGreatDoor.Pr
end
