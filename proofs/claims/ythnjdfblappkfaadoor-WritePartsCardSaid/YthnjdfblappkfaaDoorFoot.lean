/-
  Terms with the blocks they lie in: what stays read while a box beside them is written.
-/
import Derived.Test.YthnjdfblappkfaaDoorMTerm
namespace Go.Proofs.YthnjdfblappkfaaDoor
open Go.RowKit Go.Proofs.YthnjdfblappkfaaDoorW.PrintWords Go.Proofs.YthnjdfblappkfaaDoorW.PrintLast Go.Proofs.YthnjdfblappkfaaDoorW.PrintMore Go.Proofs.YthnjdfblappkfaaDoor.P

theorem heap24 : Kd.Heap k24 := Kd.heap_fix (fun _ hd => Kd.heap_iso _ (Kd.heap_pair (Kd.heap_int _) (Kd.heap_pair Kd.heap_string (Kd.heap_pair (Kd.heap_int _) (Kd.heap_slice 24 hd)))))

/-- A term as a value, and what it leads to lies in ok. -/
def TermF (w : World) (ok : Nat → Prop) (x : S24) (v : Value) : Prop := ∃ A c, v = .agg #[.int .u8 x.f0, .string x.f1, .int .i64 x.f2, .slice A x.f3.length c] ∧ x.f3.length ≤ c ∧ Kd.F k24 w ok A x.f3.length x.f3
section
variable {w w1 : World} {ok ok' : Nat → Prop} {x : S24} {v : Value}
theorem TermF.now (h : TermF w ok x v) : TermV w x v := by
  obtain ⟨A, c, rfl, hc, hF⟩ := h
  exact ⟨A, c, rfl, hc, Kd.F_now hF⟩
theorem TermF.mono (h : TermF w ok x v) (hok : ∀ k, ok k → ok' k) : TermF w ok' x v := by
  obtain ⟨A, c, rfl, hc, hF⟩ := h
  exact ⟨A, c, rfl, hc, Kd.F_mono hF hok⟩
theorem TermF.bound (h : TermF w ok x v) : TermF w (fun k => ok k ∧ k < w.heap.size) x v := by
  obtain ⟨A, c, rfl, hc, hF⟩ := h
  exact ⟨A, c, rfl, hc, Kd.F_bound hF⟩
theorem TermF.step (h : TermF w ok x v) (hm : ∀ k, ok k → k < w.heap.size → w1.heap[k]? = w.heap[k]?) : TermF w1 ok x v := by
  obtain ⟨A, c, rfl, hc, hF⟩ := h
  exact ⟨A, c, rfl, hc, Kd.F_step hF hm⟩
theorem TermF.below (h : TermF w ok x v) (hb : Below w.heap.size w w1) : TermF w1 ok x v := h.step (fun k _ hlt => hb.block k hlt)
theorem TermF.of_V (h : TermV w x v) : TermF w (fun k => k < w.heap.size) x v := by
  obtain ⟨A, c, rfl, hc, hC⟩ := h
  exact ⟨A, c, rfl, hc, Kd.C_F heap24 hC⟩
theorem TermF.nil (f0 : Int) (f1 : ByteArray) (f2 : Int) : TermF w ok ⟨f0, f1, f2, []⟩ (.agg #[.int .u8 f0, .string f1, .int .i64 f2, .slice none 0 0]) := ⟨none, 0, rfl, Nat.le_refl _, Kd.F_nil k24 w ok⟩
end

theorem cellsOf_repsF (w : World) (ok : Nat → Prop) : ∀ (l : List (S24 × Option Addr × Nat)), (∀ p ∈ l, p.1.f3.length ≤ p.2.2 ∧ Kd.F k24 w ok p.2.1 p.1.f3.length p.1.f3) → Reps (fun x c => Kd.FK k24 w ok x c) 4 (l.map (·.1)) (cellsOf l)
  | [], _ => Reps.none _ _
  | p :: l, h => by
    have h1 := h p (by simp)
    have ih := cellsOf_repsF w ok l (fun q hq => h q (by simp [hq]))
    have hk : Kd.FK k24 w ok p.1 [.int .u8 p.1.f0, .string p.1.f1, .int .i64 p.1.f2, .slice p.2.1 p.1.f3.length p.2.2] := k24_mkF w ok p.1 h1.1 h1.2
    have h0 : Reps (fun x c => Kd.FK k24 w ok x c) 4 [p.1] [.int .u8 p.1.f0, .string p.1.f1, .int .i64 p.1.f2, .slice p.2.1 p.1.f3.length p.2.2] := by
      have := Reps.snoc (Reps.none (fun x c => Kd.FK k24 w ok x c) 4) hk rfl
      exact this
    exact Kd.reps_append h0 ih

/-- A row of the call's own over elements that stay. -/
theorem own_F {w w1 : World} {ok : Nat → Prop} {base n : Nat} {v : Value} {l : List S24} {inner : List Value} (hown : w1.ownsRow base 24 4 v l.length inner) (hrep : Reps (fun x c => Kd.FK k24 w ok x c) 4 l inner)
    (hb : Below w.heap.size w w1) (hbase : n ≤ base) : ∃ A c, v = .slice A l.length c ∧ l.length ≤ c ∧ Kd.F k24 w1 (fun k => (ok k ∧ k < w.heap.size) ∨ n ≤ k) A l.length l := by
  obtain ⟨A, c, rfl, hc, _⟩ := OwnRow.reads (R := fun x c => Kd.FK k24 w ok x c) ⟨inner, hown, hrep⟩
  refine ⟨A, c, rfl, hc, fun W' hW => ?_⟩
  have hown' : W'.ownsRow base 24 4 (.slice A l.length c) l.length inner := own_move hown (fun k hk => hW k (.inr (Nat.le_trans hbase (ownsRow_lt hown k hk).2.1)) (ownsRow_lt hown k hk).1)
  have hrep' : Reps (k24.K W') 4 l inner := hrep.imp_ (fun x c hx => (Kd.FK_bound hx) W' (fun k hk hlt => (hW k (.inl hk) (Nat.lt_of_lt_of_le hlt hb.size)).trans (hb.block k hlt)))
  obtain ⟨A2, c2, he, _, hR⟩ := OwnRow.reads (R := k24.K W') ⟨inner, hown', hrep'⟩
  injection he with ha _ _
  subst ha
  exact hR

/-- A literal of terms. -/
theorem lit_F (w : World) (ok : Nat → Prop) (l : List (S24 × Option Addr × Nat)) (hl : l.length ≤ 1000) (h : ∀ p ∈ l, p.1.f3.length ≤ p.2.2 ∧ Kd.F k24 w ok p.2.1 p.1.f3.length p.1.f3) :
    Kd.F k24 (w.alloc (.cells (cellsOf l).toArray 24)) (fun k => (ok k ∧ k < w.heap.size) ∨ w.heap.size ≤ k) (some ⟨w.heap.size, 0, none⟩) l.length (l.map (·.1)) := by
  have hr := cellsOf_repsF w ok l h
  obtain ⟨inner, ho, hr⟩ := OwnRow.lit (e := 24) w w.heap.size hr (Nat.le_refl _) (by rw [List.length_map]; omega)
  obtain ⟨A, c, he, _, hF⟩ := own_F ho hr ((Below.refl _ w).alloc (Nat.le_refl _) _) (Nat.le_refl _)
  injection he with ha _ _
  rw [← ha, List.length_map] at hF
  exact hF

set_option maxHeartbeats 2000000 in
set_option maxRecDepth 100000 in
theorem Clone_F (A : Option Addr) (c : Nat) (l : List S24) (w : World) (ok : Nat → Prop) (hF : Kd.F k24 w ok A l.length l) (hlen : l.length ≤ 1000000) :
    Calls Tryd.prog 45 #[.slice A l.length c] w fun e w' => (∃ A' c', e = .returned (.slice A' l.length c') ∧ l.length ≤ c' ∧ Kd.F k24 w' (fun k => (ok k ∧ k < w.heap.size) ∨ w.heap.size ≤ k) A' l.length l) ∧ Below w.heap.size w w' := by
  have q22 : ∀ (w : World) (a : Option Addr) (n c n' c' : Nat), (binOp .eql 22 (.slice a n c) (.slice none n' c')).run Tryd.prog w = .ok (.bool a.isNone) w := fun w a n c n' c' => Lib.run_eql_slice_nil w _ _ a n c n' c' Tryd.underlying22
  rcases A with _ | ⟨b, off, p⟩
  · obtain rfl : l = [] := by
      rcases Nat.eq_zero_or_pos l.length with h | h
      · exact List.length_eq_zero_iff.1 h
      · obtain ⟨_, h, _⟩ := (Kd.F_now hF).2.2 h
        cases h
    clear hF hlen
    go_enter Tryd.func45, Tryd.ntmps45
    go_wp2
    go_ret
    exact ⟨⟨none, 0, rfl, Nat.le_refl _, Kd.F_nil _ _ _⟩, Below.refl _ _⟩
  · obtain ⟨news, hrep, hcells⟩ := ReadsRow.inner_ (Kd.F_rows hF)
    have hone : ∀ u ∈ news, u.oneCell' = true := by
      intro u hu
      obtain ⟨q, hq, rfl⟩ := List.mem_iff_getElem.1 hu
      have hql : q / 4 < l.length := by
        rw [Nat.div_lt_iff_lt_mul (by decide)]
        have := hrep.1
        have h4 : k24.sz = 4 := rfl
        rw [h4] at this
        omega
      have hk := Kd.FK_now (hrep.2 (q / 4) _ (List.getElem?_eq_getElem hql))
      refine k24.K_one hk _ ?_
      rw [List.mem_iff_getElem?]
      refine ⟨q % 4, ?_⟩
      show (List.take 4 (List.drop (q / 4 * 4) news))[q % 4]? = _
      rw [List.getElem?_take, if_pos (Nat.mod_lt _ (by decide)), List.getElem?_drop, Nat.mul_comm, Nat.div_add_mod, List.getElem?_eq_getElem hq]
    have hlen4 : news.length = l.length * 4 := hrep.1
    obtain ⟨i0, hi, hz0, hz1, hz2⟩ := info_parts termInfo
    have AC := Aside0.mk hcells
    have AO := Aside0.mk hone
    have AR := Aside0.mk hrep
    have AL := Aside0.mk hlen4
    clear hcells hone hrep hlen4 hF
    go_enter Tryd.func45, Tryd.ntmps45
    go_wp2_with (at_builtin; refine wpList_append_own _ rfl _ _ 22 rfl w.heap.size 24 i0 _ 4 56 Tryd.underlying22 hi hz0 hz1 hz2 rfl (by decide) _ _ _ rfl (World.ownsRow_made w #[] 0 (Nat.le_refl _) (Nat.zero_le _) (by simp)) ⟨b, off, p⟩ l.length c news rfl ?qc1 ?qc2 ?qc3 ?qc4 ?qc5 ?qc6 ?_)
    case qc1 => exact AL.out
    case qc2 =>
      intro j u hj
      exact Lib.cell?_alloc_some _ (AC.out j u hj)
    case qc3 => exact AO.out
    case qc4 => unfold maxLen; omega
    case qc5 => omega
    case qc6 => simp
    intro v' w1 hown hgrow hnil
    go_wp2
    go_ret
    have hb : Below w.heap.size w w1 := ((Below.refl _ w).alloc (Nat.le_refl _) _).grown hgrow (by simp) (by intro k hk; simp [Value.ownBlock] at hk; omega)
    have hown : w1.ownsRow w.heap.size 24 4 v' l.length news := by simpa using hown
    obtain ⟨A', c', rfl, hle, hFF⟩ := own_F (l := l) hown AR.out hb (Nat.le_refl _)
    exact ⟨⟨A', c', rfl, hle, hFF⟩, hb⟩

set_option maxHeartbeats 2000000 in
set_option maxRecDepth 100000 in
/-- term.F, of terms that stay. -/
theorem F_F (s : ByteArray) (A : Option Addr) (c : Nat) (l : List S24) (w : World) (ok : Nat → Prop) (hF : Kd.F k24 w ok A l.length l) (hlen : l.length ≤ 1000000) :
    Calls Tryd.prog 19 #[.string s, .slice A l.length c] w fun e w' => (∃ v, e = .returned v ∧ TermF w' (fun k => (ok k ∧ k < w.heap.size) ∨ w.heap.size ≤ k) (mkF s l) v) ∧ Below w.heap.size w w' := by
  have hu24 := Tryd.underlying24
  have hbx : Below w.heap.size w (w.alloc (.cells #[.int .u8 0, .string ⟨#[]⟩, .int .i64 0, .slice none 0 0] 24)) := (Below.refl _ w).alloc (Nat.le_refl _) _
  have hT := (MapKept.heap_alloc w (.cells #[.int .u8 0, .string ⟨#[]⟩, .int .i64 0, .slice none 0 0] 24)).1
  have hs1 : (w.alloc (.cells #[.int .u8 0, .string ⟨#[]⟩, .int .i64 0, .slice none 0 0] 24)).heap.size = w.heap.size + 1 := World.size_alloc _ _
  rcases l with _ | ⟨x, l⟩
  · have hA := A_calls s (w.alloc (.cells #[.int .u8 0, .string ⟨#[]⟩, .int .i64 0, .slice none 0 0] 24))
    have HA := Lib.hid hA
    clear hA hF hlen
    go_enter Tryd.func19, Tryd.ntmps19
    go_wp2_with (go_at_call 21; refine HA.out.mono ?_; rintro e w1 ⟨rfl, hb1⟩; have hT1 := (hb1.block w.heap.size (by omega)).trans hT; have a0 := Lib.frozen_of_heap hT1 0; have a1 := Lib.frozen_of_heap hT1 1; have a2 := Lib.frozen_of_heap hT1 2; have a3 := Lib.frozen_of_heap hT1 3; have b0 := Lib.cell_of_heap hT1 0; have b1 := Lib.cell_of_heap hT1 1; have b2 := Lib.cell_of_heap hT1 2; have b3 := Lib.cell_of_heap hT1 3)
    have hrow := setRow4 hT1 (.int .u8 3) (.string s) (.int .i64 0) (.slice none 0 0)
    refine bodyPost_ret (results_cell_row rfl _ _ w.heap.size 24 _ (0, 0) _ rfl hrow.1 hu24 rfl (by kernel_rfl)) rfl ?_
    refine ⟨⟨_, rfl, none, 0, rfl, Nat.le_refl _, Kd.F_nil _ _ _⟩, ?_⟩
    exact ((((hbx.trans (hb1.mono hbx.size)).setCell (Nat.le_refl _) _).setCell (Nat.le_refl _) _).setCell (Nat.le_refl _) _).setCell (Nat.le_refl _) _
  · have hN := Clone_F A c (x :: l) _ _ (Kd.F_below (Kd.F_bound hF) hbx) hlen
    have HN := Lib.hid hN
    clear hN hF hlen
    go_enter Tryd.func19, Tryd.ntmps19
    go_wp2_with (go_at_call 45; refine HN.out.mono ?_; rintro e w1 ⟨⟨A', c', rfl, hc', hC'⟩, hb1⟩; have hT1 := (hb1.block w.heap.size (by omega)).trans hT; have a0 := Lib.frozen_of_heap hT1 0; have a1 := Lib.frozen_of_heap hT1 1; have a2 := Lib.frozen_of_heap hT1 2; have a3 := Lib.frozen_of_heap hT1 3; have b0 := Lib.cell_of_heap hT1 0; have b1 := Lib.cell_of_heap hT1 1; have b2 := Lib.cell_of_heap hT1 2; have b3 := Lib.cell_of_heap hT1 3)
    have hrow := setRow4 hT1 (.int .u8 4) (.string s) (.int .i64 0) (.slice A' (x :: l).length c')
    refine bodyPost_ret (results_cell_row rfl _ _ w.heap.size 24 _ (0, 0) _ rfl hrow.1 hu24 rfl (by kernel_rfl)) rfl ?_
    refine ⟨⟨_, rfl, A', c', rfl, hc', Kd.F_mono (Kd.F_step hC' (fun k hk hlt => hrow.2 k ?_)) (fun k hk => ?_)⟩, ?_⟩
    · rcases hk with ⟨⟨_, h1⟩, _⟩ | h1
      · omega
      · omega
    · rcases hk with ⟨h1, _⟩ | h1
      · exact .inl h1
      · exact .inr (by omega)
    · exact ((((hbx.trans (hb1.mono hbx.size)).setCell (Nat.le_refl _) _).setCell (Nat.le_refl _) _).setCell (Nat.le_refl _) _).setCell (Nat.le_refl _) _
end Go.Proofs.YthnjdfblappkfaaDoor
