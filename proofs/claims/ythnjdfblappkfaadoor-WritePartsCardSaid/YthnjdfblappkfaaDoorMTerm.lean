/- Several small texts of this claim in one. -/
import Derived.Test.YthnjdfblappkfaaDoorWTop
section
/-
  term.V, term.A, term.I, term.F and slices.Clone of terms.
-/
namespace Go.Proofs.YthnjdfblappkfaaDoor
open Go.RowKit Go.Proofs.YthnjdfblappkfaaDoorW.PrintWords Go.Proofs.YthnjdfblappkfaaDoorW.PrintLast Go.Proofs.YthnjdfblappkfaaDoorW.PrintMore Go.Proofs.YthnjdfblappkfaaDoor.P

theorem termInfo : (Tryd.prog.info? 24).map (fun i => (i.zero, i.size, i.bytes)) = some (some (.agg #[.int .u8 0, .string ⟨#[]⟩, .int .i64 0, .slice none 0 0]), 4, 56) := by kernel_rfl

theorem C_nil (w : World) : Kd.C k24 w none 0 [] := ⟨rfl, by decide, fun h => absurd h (Nat.lt_irrefl _)⟩

/-- A term's four cells, one behind the other with others'. -/
def cellsOf : List (S24 × Option Addr × Nat) → List Value
  | [] => []
  | p :: l => [.int .u8 p.1.f0, .string p.1.f1, .int .i64 p.1.f2, .slice p.2.1 p.1.f3.length p.2.2] ++ cellsOf l
theorem cellsOf_reps (w : World) : ∀ (l : List (S24 × Option Addr × Nat)), (∀ p ∈ l, p.1.f3.length ≤ p.2.2 ∧ Kd.C k24 w p.2.1 p.1.f3.length p.1.f3) → Reps (k24.K w) 4 (l.map (·.1)) (cellsOf l)
  | [], _ => Reps.none _ _
  | p :: l, h => by
    have h1 := h p (by simp)
    have ih := cellsOf_reps w l (fun q hq => h q (by simp [hq]))
    have hk : k24.K w p.1 [.int .u8 p.1.f0, .string p.1.f1, .int .i64 p.1.f2, .slice p.2.1 p.1.f3.length p.2.2] := k24_mk w p.1 h1.1 h1.2
    have h0 : Reps (k24.K w) 4 [p.1] [.int .u8 p.1.f0, .string p.1.f1, .int .i64 p.1.f2, .slice p.2.1 p.1.f3.length p.2.2] := by
      have := Reps.snoc (Reps.none (k24.K w) 4) hk rfl
      exact this
    exact Kd.reps_append h0 ih

/-- A literal of terms. -/
theorem lit_C (w : World) (l : List (S24 × Option Addr × Nat)) (hl : l.length ≤ 1000) (h : ∀ p ∈ l, p.1.f3.length ≤ p.2.2 ∧ Kd.C k24 w p.2.1 p.1.f3.length p.1.f3) :
    Kd.C k24 (w.alloc (.cells (cellsOf l).toArray 24)) (some ⟨w.heap.size, 0, none⟩) l.length (l.map (·.1)) := by
  have hr := cellsOf_reps w l h
  have ho := OwnRow.lit (e := 24) w 0 hr (Nat.zero_le _) (by rw [List.length_map]; omega)
  obtain ⟨A, c, he, hc, hR⟩ := OwnRow.reads ho
  rw [List.length_map] at he hR
  injection he with ha _ _
  rw [← ha] at hR
  refine ReadsRow.imp_ hR (Below.refl _ _) (fun p c hp => k24.K_below ?_ hp)
  exact (Below.refl _ w).alloc (Nat.le_refl _) _

set_option maxRecDepth 100000 in
theorem V_calls (n : Int) (w : World) : Calls Tryd.prog 36 #[.int .i64 n] w fun e w' => e = .returned (.agg #[.int .u8 1, .string ⟨#[]⟩, .int .i64 n, .slice none 0 0]) ∧ Below w.heap.size w w' := by
  have hu24 := Tryd.underlying24
  go_enter Tryd.func36, Tryd.ntmps36
  go_wp2
  have hrow := (MapKept.heap_alloc w (.cells #[.int .u8 1, .string ⟨#[]⟩, .int .i64 n, .slice none 0 0] 24)).1
  refine bodyPost_ret (results_cell_row rfl _ _ w.heap.size 24 _ (0, 0) _ rfl hrow hu24 rfl (by kernel_rfl)) rfl ?_
  exact ⟨rfl, (Below.refl _ w).alloc (Nat.le_refl _) _⟩
set_option maxRecDepth 100000 in
theorem I_calls (n : Int) (w : World) : Calls Tryd.prog 37 #[.int .i64 n] w fun e w' => e = .returned (.agg #[.int .u8 2, .string ⟨#[]⟩, .int .i64 n, .slice none 0 0]) ∧ Below w.heap.size w w' := by
  have hu24 := Tryd.underlying24
  go_enter Tryd.func37, Tryd.ntmps37
  go_wp2
  have hrow := (MapKept.heap_alloc w (.cells #[.int .u8 2, .string ⟨#[]⟩, .int .i64 n, .slice none 0 0] 24)).1
  refine bodyPost_ret (results_cell_row rfl _ _ w.heap.size 24 _ (0, 0) _ rfl hrow hu24 rfl (by kernel_rfl)) rfl ?_
  exact ⟨rfl, (Below.refl _ w).alloc (Nat.le_refl _) _⟩
set_option maxRecDepth 100000 in
theorem A_calls (s : ByteArray) (w : World) : Calls Tryd.prog 21 #[.string s] w fun e w' => e = .returned (.agg #[.int .u8 3, .string s, .int .i64 0, .slice none 0 0]) ∧ Below w.heap.size w w' := by
  have hu24 := Tryd.underlying24
  go_enter Tryd.func21, Tryd.ntmps21
  go_wp2
  have hrow := (MapKept.heap_alloc w (.cells #[.int .u8 3, .string s, .int .i64 0, .slice none 0 0] 24)).1
  refine bodyPost_ret (results_cell_row rfl _ _ w.heap.size 24 _ (0, 0) _ rfl hrow hu24 rfl (by kernel_rfl)) rfl ?_
  exact ⟨rfl, (Below.refl _ w).alloc (Nat.le_refl _) _⟩

set_option maxHeartbeats 2000000 in
set_option maxRecDepth 100000 in
/-- What a row of the call's own says in any world that keeps it. -/
def KeepC (w0 w w1 : World) (A : Option Addr) (l : List S24) : Prop :=
  ∀ W, Below w0.heap.size w0 W → (∀ k, w.heap.size ≤ k → k < w1.heap.size → W.heap[k]? = w1.heap[k]?) → Kd.C k24 W A l.length l

set_option maxHeartbeats 2000000 in
set_option maxRecDepth 100000 in
theorem Clone_calls (A : Option Addr) (c : Nat) (l : List S24) (w0 w : World) (hC : Kd.C k24 w0 A l.length l) (h0 : Below w0.heap.size w0 w) (hlen : l.length ≤ 1000000) :
    Calls Tryd.prog 45 #[.slice A l.length c] w fun e w' => (∃ A' c', e = .returned (.slice A' l.length c') ∧ l.length ≤ c' ∧ KeepC w0 w w' A' l) ∧ Below w.heap.size w w' := by
  have q22 : ∀ (w : World) (a : Option Addr) (n c n' c' : Nat), (binOp .eql 22 (.slice a n c) (.slice none n' c')).run Tryd.prog w = .ok (.bool a.isNone) w := fun w a n c n' c' => Lib.run_eql_slice_nil w _ _ a n c n' c' Tryd.underlying22
  rcases A with _ | ⟨b, off, p⟩
  · obtain rfl : l = [] := by
      rcases Nat.eq_zero_or_pos l.length with h | h
      · exact List.length_eq_zero_iff.1 h
      · obtain ⟨_, h, _⟩ := hC.2.2 h
        cases h
    clear hC hlen
    go_enter Tryd.func45, Tryd.ntmps45
    go_wp2
    go_ret
    exact ⟨⟨none, 0, rfl, Nat.le_refl _, fun W _ _ => C_nil _⟩, Below.refl _ _⟩
  · obtain ⟨news, hrep, hcells0⟩ := ReadsRow.inner_ hC
    have hcells : ∀ j u, news[j]? = some u → w.cell? ((⟨b, off, p⟩ : Addr).add j) = some u := fun j u hu => (h0.cell (World.block_lt_of_cell? w0 _ (hcells0 j u hu))).trans (hcells0 j u hu)
    have hone : ∀ u ∈ news, u.oneCell' = true := by
      intro u hu
      obtain ⟨q, hq, rfl⟩ := List.mem_iff_getElem.1 hu
      have hql : q / 4 < l.length := by
        rw [Nat.div_lt_iff_lt_mul (by decide)]
        have := hrep.1
        have h4 : k24.sz = 4 := rfl
        rw [h4] at this
        omega
      have hk := hrep.2 (q / 4) _ (List.getElem?_eq_getElem hql)
      refine k24.K_one hk _ ?_
      rw [List.mem_iff_getElem?]
      refine ⟨q % 4, ?_⟩
      show (List.take 4 (List.drop (q / 4 * 4) news))[q % 4]? = _
      rw [List.getElem?_take, if_pos (Nat.mod_lt _ (by decide)), List.getElem?_drop, Nat.mul_comm, Nat.div_add_mod, List.getElem?_eq_getElem hq]
    have hlen4 : news.length = l.length * 4 := hrep.1
    obtain ⟨i0, hi, hz0, hz1, hz2⟩ := info_parts termInfo
    have AC := Aside0.mk hcells
    have AO := Aside0.mk hone
    have AR := Aside0.mk hrep
    have AL := Aside0.mk hlen4
    have A0 := Aside0.mk h0
    clear hcells hcells0 hone hrep hlen4 hC h0
    go_enter Tryd.func45, Tryd.ntmps45
    go_wp2_with (at_builtin; refine wpList_append_own _ rfl _ _ 22 rfl w.heap.size 24 i0 _ 4 56 Tryd.underlying22 hi hz0 hz1 hz2 rfl (by decide) _ _ _ rfl (World.ownsRow_made w #[] 0 (Nat.le_refl _) (Nat.zero_le _) (by simp)) ⟨b, off, p⟩ l.length c news rfl ?qc1 ?qc2 ?qc3 ?qc4 ?qc5 ?qc6 ?_)
    case qc1 => exact AL.out
    case qc2 =>
      intro j u hj
      exact Lib.cell?_alloc_some _ (AC.out j u hj)
    case qc3 => exact AO.out
    case qc4 => unfold maxLen; omega
    case qc5 => omega
    case qc6 => simp
    intro v' w1 hown hgrow hnil
    go_wp2
    go_ret
    have hb : Below w.heap.size w w1 := ((Below.refl _ w).alloc (Nat.le_refl _) _).grown hgrow (by simp) (by intro k hk; simp [Value.ownBlock] at hk; omega)
    have hown : w1.ownsRow w.heap.size 24 4 v' l.length news := hown
    obtain ⟨A', c', rfl, hle⟩ := (OwnRow.slice_ (R := k24.K w0) (ps := l) ⟨news, hown, AR.out⟩)
    refine ⟨⟨A', c', rfl, hle, fun W hW hk => ?_⟩, hb⟩
    have hown' : W.ownsRow w.heap.size 24 4 (.slice A' l.length c') l.length news := ownsRow_same hown (fun g hg => hk g (ownsRow_lt hown g hg).2.1 (ownsRow_lt hown g hg).1)
    obtain ⟨A2, c2, he, hR⟩ := own_reads_row hown' AR.out rfl
    injection he with ha _ _
    subst ha
    exact ReadsRow.imp_ hR (Below.refl _ _) (fun p c hp => k24.K_below hW hp)

/-- What F makes. -/
def mkF (s : ByteArray) (l : List S24) : S24 := if l.isEmpty = true then ⟨3, s, 0, []⟩ else ⟨4, s, 0, l⟩

set_option maxHeartbeats 2000000 in
set_option maxRecDepth 100000 in
theorem F_calls (s : ByteArray) (A : Option Addr) (c : Nat) (l : List S24) (w : World) (hC : Kd.C k24 w A l.length l) (hlen : l.length ≤ 1000000) :
    Calls Tryd.prog 19 #[.string s, .slice A l.length c] w fun e w' => (∃ v, e = .returned v ∧ TermV w' (mkF s l) v) ∧ Below w.heap.size w w' := by
  have hu24 := Tryd.underlying24
  have hbx : Below w.heap.size w (w.alloc (.cells #[.int .u8 0, .string ⟨#[]⟩, .int .i64 0, .slice none 0 0] 24)) := (Below.refl _ w).alloc (Nat.le_refl _) _
  have hT := (MapKept.heap_alloc w (.cells #[.int .u8 0, .string ⟨#[]⟩, .int .i64 0, .slice none 0 0] 24)).1
  have hs1 : (w.alloc (.cells #[.int .u8 0, .string ⟨#[]⟩, .int .i64 0, .slice none 0 0] 24)).heap.size = w.heap.size + 1 := World.size_alloc _ _
  rcases l with _ | ⟨x, l⟩
  · have hA := A_calls s (w.alloc (.cells #[.int .u8 0, .string ⟨#[]⟩, .int .i64 0, .slice none 0 0] 24))
    have HA := Lib.hid hA
    clear hA hC hlen
    go_enter Tryd.func19, Tryd.ntmps19
    go_wp2_with (go_at_call 21; refine HA.out.mono ?_; rintro e w1 ⟨rfl, hb1⟩; have hT1 := (hb1.block w.heap.size (by omega)).trans hT; have a0 := Lib.frozen_of_heap hT1 0; have a1 := Lib.frozen_of_heap hT1 1; have a2 := Lib.frozen_of_heap hT1 2; have a3 := Lib.frozen_of_heap hT1 3; have b0 := Lib.cell_of_heap hT1 0; have b1 := Lib.cell_of_heap hT1 1; have b2 := Lib.cell_of_heap hT1 2; have b3 := Lib.cell_of_heap hT1 3)
    have hrow := setRow4 hT1 (.int .u8 3) (.string s) (.int .i64 0) (.slice none 0 0)
    refine bodyPost_ret (results_cell_row rfl _ _ w.heap.size 24 _ (0, 0) _ rfl hrow.1 hu24 rfl (by kernel_rfl)) rfl ?_
    refine ⟨⟨_, rfl, none, 0, rfl, Nat.le_refl _, C_nil _⟩, ?_⟩
    exact ((((hbx.trans (hb1.mono hbx.size)).setCell (Nat.le_refl _) _).setCell (Nat.le_refl _) _).setCell (Nat.le_refl _) _).setCell (Nat.le_refl _) _
  · have hN := Clone_calls A c (x :: l) w _ hC hbx hlen
    have HN := Lib.hid hN
    clear hN hC hlen
    go_enter Tryd.func19, Tryd.ntmps19
    go_wp2_with (go_at_call 45; refine HN.out.mono ?_; rintro e w1 ⟨⟨A', c', rfl, hc', hC'⟩, hb1⟩; have hT1 := (hb1.block w.heap.size (by omega)).trans hT; have a0 := Lib.frozen_of_heap hT1 0; have a1 := Lib.frozen_of_heap hT1 1; have a2 := Lib.frozen_of_heap hT1 2; have a3 := Lib.frozen_of_heap hT1 3; have b0 := Lib.cell_of_heap hT1 0; have b1 := Lib.cell_of_heap hT1 1; have b2 := Lib.cell_of_heap hT1 2; have b3 := Lib.cell_of_heap hT1 3)
    have hrow := setRow4 hT1 (.int .u8 4) (.string s) (.int .i64 0) (.slice A' (x :: l).length c')
    refine bodyPost_ret (results_cell_row rfl _ _ w.heap.size 24 _ (0, 0) _ rfl hrow.1 hu24 rfl (by kernel_rfl)) rfl ?_
    refine ⟨⟨_, rfl, A', c', rfl, hc', hC' _ ?_ (fun k hk hlt => hrow.2 k (by omega))⟩, ?_⟩ <;>
      exact ((((hbx.trans (hb1.mono hbx.size)).setCell (Nat.le_refl _) _).setCell (Nat.le_refl _) _).setCell (Nat.le_refl _) _).setCell (Nat.le_refl _) _
end Go.Proofs.YthnjdfblappkfaaDoor
end
section
/-
  wakes of the writer's laws: the known terms and their texts.
-/
namespace Go.Proofs.YthnjdfblappkfaaDoor
open Go.RowKit Go.Proofs.YthnjdfblappkfaaDoorW.PrintWords Go.Proofs.YthnjdfblappkfaaDoorW.PrintLast Go.Proofs.YthnjdfblappkfaaDoorW.PrintMore Go.Proofs.YthnjdfblappkfaaDoor.P

def kV (n : Int) : S24 := ⟨1, ⟨#[]⟩, n, []⟩
def kI (n : Int) : S24 := ⟨2, ⟨#[]⟩, n, []⟩
def kA (s : ByteArray) : S24 := ⟨3, s, 0, []⟩
def kT : S24 := mkF ⟨#[102]⟩ [kV 1, kA ⟨#[105, 116, 39, 115]⟩, kI (-3)]
def kL1 : S24 := mkF ⟨#[46]⟩ [kA ⟨#[98]⟩, kV 0]
def kL : S24 := mkF ⟨#[46]⟩ [kA ⟨#[97]⟩, kL1]
def kB : S24 := mkF ⟨#[91, 93]⟩ [kA ⟨#[97]⟩]

theorem kT_good : goodM 64 kT = true := by decide +kernel
theorem kL_good : goodM 64 kL = true := by decide +kernel
theorem kB_good : goodM 64 kB = true := by decide +kernel
theorem kT_text : textF 4 kT = some [102, 40, 95, 49, 44, 39, 105, 116, 39, 39, 115, 39, 44, 45, 51, 41] := by decide +kernel
theorem kL_text : textF 4 kL = some [91, 97, 44, 98, 124, 95, 48, 93] := by decide +kernel
theorem kB_text : textF 4 kB = some [39, 91, 93, 39, 40, 97, 41] := by decide +kernel
theorem kN_brack : nameM [91, 93] = [91, 93] := by decide +kernel
theorem kN_empty : nameM [] = [39, 39] := by decide +kernel

theorem known_calls (x : S24) (bs : List UInt8) (hg : goodM 64 x = true) (ht : textF 4 x = some bs) (v : Value) (w : World) (hL : LaidW w) (hV : TermV w x v) :
    Calls Tryd.prog 15 #[v] w fun e w' => e = .returned (.string ⟨bs.toArray⟩) ∧ Below w.heap.size w w' := by
  have h := Text_calls 4 x v bs w hL hV (fun _ => ht)
  rw [if_pos hg] at h
  exact h
end Go.Proofs.YthnjdfblappkfaaDoor
end
section
/-
  wakes of the writer's laws: the walk.
-/
namespace Go.Proofs.YthnjdfblappkfaaDoor
open Go.RowKit Go.Proofs.YthnjdfblappkfaaDoorW.PrintWords Go.Proofs.YthnjdfblappkfaaDoorW.PrintLast Go.Proofs.YthnjdfblappkfaaDoorW.PrintMore Go.Proofs.YthnjdfblappkfaaDoor.P

theorem brack_calls (w : World) (hL : LaidW w) : Calls Tryd.prog 17 #[.string ⟨#[91, 93]⟩] w fun e w' => e = .returned (.string ⟨#[91, 93]⟩) ∧ Below w.heap.size w w' := by
  have h := write_Name.walk ⟨#[91, 93]⟩ w (by decide) hL
  have e : nameM (bl ⟨#[91, 93]⟩) = [91, 93] := kN_brack
  rw [e] at h
  exact h
theorem empty_calls (w : World) (hL : LaidW w) : Calls Tryd.prog 17 #[.string ⟨#[]⟩] w fun e w' => e = .returned (.string ⟨#[39, 39]⟩) ∧ Below w.heap.size w w' := by
  have h := write_Name.walk ⟨#[]⟩ w (by decide) hL
  have e : nameM (bl ⟨#[]⟩) = [39, 39] := kN_empty
  rw [e] at h
  exact h

set_option maxHeartbeats 4000000 in
set_option maxRecDepth 100000 in
theorem wakes_calls (w : World) (hL : LaidW w) : Calls Tryd.prog 14 #[] w fun e w' => e = .returned (.bool true) ∧ Below w.heap.size w w' := by
  have hu24 := Tryd.underlying24
  go_enter Tryd.func14, Tryd.ntmps14
  go_wp2_with fail
  go_at_call 36
  refine (V_calls 1 _).mono ?_
  rintro e w1 ⟨rfl, hb1⟩
  go_wp2_with fail
  go_at_call 21
  refine (A_calls _ _).mono ?_
  rintro e w2 ⟨rfl, hb2⟩
  go_wp2_with fail
  go_at_call 37
  refine (I_calls _ _).mono ?_
  rintro e w3 ⟨rfl, hb3⟩
  have H1 : Below w.heap.size w w3 := (hb1.trans (hb2.mono hb1.size)).trans (hb3.mono (Nat.le_trans hb1.size hb2.size))
  clear hb1 hb2 hb3
  go_wp2_with fail
  go_at_call 19
  have HA4 := H1.alloc H1.size (.cells (cellsOf [(kV 1, none, 0), (kA ⟨#[105, 116, 39, 115]⟩, none, 0), (kI (-3), none, 0)]).toArray 24)
  refine (F_calls ⟨#[102]⟩ _ 3 [kV 1, kA ⟨#[105, 116, 39, 115]⟩, kI (-3)] _ (lit_C w3 [(kV 1, none, 0), (kA ⟨#[105, 116, 39, 115]⟩, none, 0), (kI (-3), none, 0)] (by decide) (by intro p hp; simp at hp; rcases hp with rfl | rfl | rfl <;> exact ⟨Nat.le_refl _, C_nil _⟩)) (by decide)).mono ?_
  rintro e w4 ⟨⟨v, rfl, hV4⟩, hb4⟩
  have H4 : Below w.heap.size w w4 := HA4.trans (hb4.mono HA4.size)
  clear H1 HA4 hb4
  obtain ⟨T, ⟨TA, Tc, rfl, Thc, ThC⟩, HT⟩ : ∃ T, TermV w4 T v ∧ Hid (∀ v w, LaidW w → TermV w T v → Calls Tryd.prog 15 #[v] w fun e w' => e = .returned (.string ⟨#[102, 40, 95, 49, 44, 39, 105, 116, 39, 39, 115, 39, 44, 45, 51, 41]⟩) ∧ Below w.heap.size w w') := ⟨kT, hV4, known_calls kT _ kT_good kT_text⟩
  clear hV4
  go_wp2_with fail
  go_at_call 21
  refine (A_calls _ _).mono ?_
  rintro e w5 ⟨rfl, hb5⟩
  go_wp2_with fail
  go_at_call 21
  refine (A_calls _ _).mono ?_
  rintro e w6 ⟨rfl, hb6⟩
  go_wp2_with fail
  go_at_call 36
  refine (V_calls _ _).mono ?_
  rintro e w7 ⟨rfl, hb7⟩
  go_wp2_with fail
  go_at_call 19
  have HA5 := H4.alloc H4.size (.cells #[.int .u8 T.f0, .string T.f1, .int .i64 T.f2, .slice TA T.f3.length Tc] 24)
  have hTb := (MapKept.heap_alloc w4 (.cells #[.int .u8 T.f0, .string T.f1, .int .i64 T.f2, .slice TA T.f3.length Tc] 24)).1
  have hTl : w4.heap.size < (w4.alloc (.cells #[.int .u8 T.f0, .string T.f1, .int .i64 T.f2, .slice TA T.f3.length Tc] 24)).heap.size := by rw [World.size_alloc]; exact Nat.lt_succ_self _
  have H57 := (hb5.trans (hb6.mono hb5.size)).trans (hb7.mono (Nat.le_trans hb5.size hb6.size))
  have hV4 : TermV w4 T (.agg #[.int .u8 T.f0, .string T.f1, .int .i64 T.f2, .slice TA T.f3.length Tc]) := ⟨TA, Tc, rfl, Thc, ThC⟩
  have hV7 := (hV4.below ((Below.refl _ w4).alloc (Nat.le_refl _) _)).below H57
  have hT7 := (H57.block w4.heap.size hTl).trans hTb
  have H7 : Below w.heap.size w w7 := HA5.trans (H57.mono HA5.size)
  have hl7 := Nat.lt_of_lt_of_le hTl H57.size
  clear HA5 hTb hTl H57 hV4 hb5 hb6 hb7 H4 ThC Thc
  have HA8 := H7.alloc H7.size (.cells (cellsOf [(kA ⟨#[98]⟩, none, 0), (kV 0, none, 0)]).toArray 24)
  have HD8 := (Below.refl w7.heap.size w7).alloc (Nat.le_refl _) (.cells (cellsOf [(kA ⟨#[98]⟩, none, 0), (kV 0, none, 0)]).toArray 24)
  refine (F_calls ⟨#[46]⟩ _ 2 [kA ⟨#[98]⟩, kV 0] _ (lit_C w7 [(kA ⟨#[98]⟩, none, 0), (kV 0, none, 0)] (by decide) (by intro p hp; simp at hp; rcases hp with rfl | rfl <;> exact ⟨Nat.le_refl _, C_nil _⟩)) (by decide)).mono ?_
  rintro e w8 ⟨⟨v, rfl, hV8⟩, hb8⟩
  have H8 : Below w.heap.size w w8 := HA8.trans (hb8.mono HA8.size)
  have HD : Below w7.heap.size w7 w8 := HD8.trans (hb8.mono HD8.size)
  have hT8 := (HD.block w4.heap.size hl7).trans hT7
  have hl8 := Nat.lt_of_lt_of_le hl7 HD.size
  have hVT8 := hV7.below HD
  clear HA8 HD8 hb8 H7 HD hT7 hl7 hV7
  obtain ⟨L1, hL1⟩ : ∃ L1, L1 = kL1 := ⟨_, rfl⟩
  change TermV w8 kL1 v at hV8
  rw [← hL1] at hV8
  have HL1 := Lib.hid hL1
  clear hL1
  obtain ⟨LA, Lc, rfl, Lhc, LhC⟩ := hV8
  go_wp2_with fail
  go_at_call 19
  have HA9 := H8.alloc H8.size (.cells (cellsOf [(kA ⟨#[97]⟩, none, 0), (L1, LA, Lc)]).toArray 24)
  have HD9 := (Below.refl w8.heap.size w8).alloc (Nat.le_refl _) (.cells (cellsOf [(kA ⟨#[97]⟩, none, 0), (L1, LA, Lc)]).toArray 24)
  refine (F_calls ⟨#[46]⟩ _ 2 [kA ⟨#[97]⟩, L1] _ (lit_C w8 [(kA ⟨#[97]⟩, none, 0), (L1, LA, Lc)] (by simp only [List.length_cons, List.length_nil]; omega) (by intro p hp; simp at hp; rcases hp with rfl | rfl; exact ⟨Nat.le_refl _, C_nil _⟩; exact ⟨Lhc, LhC⟩)) (by simp only [List.length_cons, List.length_nil]; omega)).mono ?_
  rintro e w9 ⟨⟨v, rfl, hV9⟩, hb9⟩
  have H9 : Below w.heap.size w w9 := HA9.trans (hb9.mono HA9.size)
  have HD : Below w8.heap.size w8 w9 := HD9.trans (hb9.mono HD9.size)
  have hT9 := (HD.block w4.heap.size hl8).trans hT8
  have hl9 := Nat.lt_of_lt_of_le hl8 HD.size
  have hVT9 := hVT8.below HD
  clear HA9 HD9 hb9 H8 HD hT8 hl8 hVT8 Lhc LhC
  obtain ⟨L, ⟨MA, Mc, rfl, Mhc, MhC⟩, HL⟩ : ∃ L, TermV w9 L v ∧ Hid (∀ v w, LaidW w → TermV w L v → Calls Tryd.prog 15 #[v] w fun e w' => e = .returned (.string ⟨#[91, 97, 44, 98, 124, 95, 48, 93]⟩) ∧ Below w.heap.size w w') := ⟨kL, by rw [HL1.out] at hV9; exact hV9, known_calls kL _ kL_good kL_text⟩
  have hV9' : TermV w9 L (.agg #[.int .u8 L.f0, .string L.f1, .int .i64 L.f2, .slice MA L.f3.length Mc]) := ⟨MA, Mc, rfl, Mhc, MhC⟩
  clear hV9 HL1 Mhc MhC
  have HA10 := H9.alloc H9.size (.cells #[.int .u8 L.f0, .string L.f1, .int .i64 L.f2, .slice MA L.f3.length Mc] 24)
  have HD10 := (Below.refl w9.heap.size w9).alloc (Nat.le_refl _) (.cells #[.int .u8 L.f0, .string L.f1, .int .i64 L.f2, .slice MA L.f3.length Mc] 24)
  have hLb := (MapKept.heap_alloc w9 (.cells #[.int .u8 L.f0, .string L.f1, .int .i64 L.f2, .slice MA L.f3.length Mc] 24)).1
  have hLl : w9.heap.size < (w9.alloc (.cells #[.int .u8 L.f0, .string L.f1, .int .i64 L.f2, .slice MA L.f3.length Mc] 24)).heap.size := by rw [World.size_alloc]; exact Nat.lt_succ_self _
  have hVL := hV9'.below HD10
  have hVT10 := hVT9.below HD10
  have hT10 := (HD10.block w4.heap.size hl9).trans hT9
  have a0 := Lib.cell_of_heap hT10 0
  have a1 := Lib.cell_of_heap hT10 1
  have a2 := Lib.cell_of_heap hT10 2
  have a3 := Lib.cell_of_heap hT10 3
  go_wp2_with fail
  go_at_call 15
  have hL10 := hL.below HA10
  have hl10 := Nat.le_of_lt hLl
  refine (HT.out _ _ hL10 hVT10).mono ?_
  rintro e w10 ⟨rfl, hb10⟩
  have H10 : Below w.heap.size w w10 := HA10.trans (hb10.mono HA10.size)
  have hL10 := hL.below H10
  have hVL10 := hVL.below hb10
  have hLb10 := (hb10.block w9.heap.size hLl).trans hLb
  clear a0 a1 a2 a3 hVT10 hT10 HD10 hb10 HA10 hVL hLb hLl HT
  have b0 := Lib.cell_of_heap hLb10 0
  have b1 := Lib.cell_of_heap hLb10 1
  have b2 := Lib.cell_of_heap hLb10 2
  have b3 := Lib.cell_of_heap hLb10 3
  go_wp2_with fail
  go_at_call 15
  refine (HL.out _ _ hL10 hVL10).mono ?_
  rintro e w11 ⟨rfl, hb11⟩
  have H11 : Below w.heap.size w w11 := H10.trans (hb11.mono H10.size)
  have hL11 := hL.below H11
  clear b0 b1 b2 b3 hLb10 hVL10 hb11 HL
  go_wp2_with fail
  go_at_call 17
  refine (brack_calls _ hL11).mono ?_
  rintro e w12 ⟨rfl, hb12⟩
  have H12 : Below w.heap.size w w12 := H11.trans (hb12.mono H11.size)
  go_wp2_with fail
  go_at_call 21
  refine (A_calls _ _).mono ?_
  rintro e w13 ⟨rfl, hb13⟩
  have H13 : Below w.heap.size w w13 := H12.trans (hb13.mono H12.size)
  go_wp2_with fail
  go_at_call 19
  have HA14 := H13.alloc H13.size (.cells (cellsOf [(kA ⟨#[97]⟩, none, 0)]).toArray 24)
  refine (F_calls ⟨#[91, 93]⟩ _ 1 [kA ⟨#[97]⟩] _ (lit_C w13 [(kA ⟨#[97]⟩, none, 0)] (by decide) (by intro p hp; simp at hp; rcases hp with rfl; exact ⟨Nat.le_refl _, C_nil _⟩)) (by decide)).mono ?_
  rintro e w14 ⟨⟨v, rfl, hV14⟩, hb14⟩
  have H14 : Below w.heap.size w w14 := HA14.trans (hb14.mono HA14.size)
  have hL14 := hL.below H14
  have HB14 := Lib.hid (known_calls kB _ kB_good kB_text v w14 hL14 hV14)
  clear HA14 hb12 hb13 hb14 hV14 H12 H13
  go_wp2_with fail
  go_at_call 15
  refine HB14.out.mono ?_
  rintro e w15 ⟨rfl, hb15⟩
  have H15 : Below w.heap.size w w15 := H14.trans (hb15.mono H14.size)
  have hL15 := hL.below H15
  go_wp2_with fail
  go_at_call 17
  refine (empty_calls _ hL15).mono ?_
  rintro e w16 ⟨rfl, hb16⟩
  have H16 : Below w.heap.size w w16 := H15.trans (hb16.mono H15.size)
  clear HB14 hL15 hL14 hL11 hL10 H14 H15 H11 hb15 hb16
  go_wp2
  go_ret
  exact ⟨rfl, H16⟩
end Go.Proofs.YthnjdfblappkfaaDoor
end
