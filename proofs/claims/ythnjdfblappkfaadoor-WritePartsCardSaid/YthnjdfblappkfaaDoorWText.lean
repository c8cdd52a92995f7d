/-
  write.text: what it gives, and the closure that adds a term's text to the parts.
-/
import Derived.Test.YthnjdfblappkfaaDoorMQuoted
import Derived.Test.YthnjdfblappkfaaDoorWRange
import Derived.Test.YthnjdfblappkfaaDoorPwritecons
import Derived.Deep.RegionLaw
import Derived.Deep.RegionHeld3
namespace Go.Proofs.YthnjdfblappkfaaDoor
open Go.RowKit Go.Proofs.YthnjdfblappkfaaDoorW.PrintWords Go.Proofs.YthnjdfblappkfaaDoorW.PrintLast Go.Proofs.YthnjdfblappkfaaDoorW.PrintMore Go.Proofs.YthnjdfblappkfaaDoor.P

/-- A list's node. -/
def consB (x : S24) : Bool := x.f0 == 4 && bl x.f1 == [46] && x.f3.length == 2
/-- A list's elements, and what is behind them. -/
def spine : Nat → S24 → Option (List S24 × S24)
  | 0, _ => none
  | k + 1, x => if consB x = true then (spine k (rd_T24 x.f3 1)).bind fun p => some (rd_T24 x.f3 0 :: p.1, p.2) else some ([], x)
def mapO (f : S24 → Option (List UInt8)) : List S24 → Option (List (List UInt8))
  | [] => some []
  | x :: l => (f x).bind fun r => (mapO f l).bind fun rs => some (r :: rs)
def joinC (rs : List (List UInt8)) : List UInt8 := Lib.join rs [44]
/-- No more texts, and no longer ones, than can be joined. -/
def small (rs : List (List UInt8)) : Prop := rs.length ≤ 1048576 ∧ (joinC rs).length ≤ 1099511627776
instance (rs : List (List UInt8)) : Decidable (small rs) := by unfold small; infer_instance
/-- A term's text, within bounds. -/
def textF : Nat → S24 → Option (List UInt8)
  | 0, _ => none
  | k + 1, x =>
    if ¬ (x.f1.size ≤ 200 ∧ -9223372036854775808 ≤ x.f2 ∧ x.f2 ≤ 9223372036854775807) then none
    else if x.f0 = 1 then some (95 :: Lib.itoa x.f2)
    else if x.f0 = 2 then some (Lib.itoa x.f2)
    else if x.f0 = 3 then some (nameM (bl x.f1))
    else if x.f0 ≠ 4 ∨ x.f3 = [] then none
    else if consB x = true then (spine k x).bind fun p => (mapO (textF k) p.1).bind fun rs =>
      if small rs then (if p.2.f0 ≠ 3 ∨ bl p.2.f1 ≠ [91, 93] then (textF k p.2).bind fun q => if q.length ≤ 1099511627776 then some (91 :: joinC rs ++ 124 :: q ++ [93]) else none else some (91 :: joinC rs ++ [93])) else none
    else (mapO (textF k) x.f3).bind fun rs => if small rs then some ((if bl x.f1 = [91, 93] then quotedL (bl x.f1) else nameM (bl x.f1)) ++ 40 :: joinC rs ++ [41]) else none

/-- A term as a value whose Args are read in a world. -/
def TermV (w : World) (x : S24) (v : Value) : Prop := ∃ A c, v = .agg #[.int .u8 x.f0, .string x.f1, .int .i64 x.f2, .slice A x.f3.length c] ∧ x.f3.length ≤ c ∧ Kd.C k24 w A x.f3.length x.f3
theorem TermV.below {w w' : World} {x : S24} {v : Value} (h : TermV w x v) (hb : Below w.heap.size w w') : TermV w' x v := by
  obtain ⟨A, c, rfl, hc, hr⟩ := h
  exact ⟨A, c, rfl, hc, Kd.C_below hr hb⟩

/-- text, at the terms that k rounds serve. -/
def TextOK (k : Nat) : Prop := ∀ (x : S24) (v : Value) (r : List UInt8) (w : World), LaidW w → TermV w x v → textF k x = some r →
  Calls Tryd.prog 38 #[v] w fun e w' => e = .returned (.string ⟨r.toArray⟩) ∧ Below w.heap.size w w'

theorem step_append_own {P : Program} {ops : Array Oper} {o : Oper} {a : Act} {w : World} {K : Act → World → Prop} {Q : Exit → Act → World → Prop} {E : Prop}
    (hg : o.guard = none) (s x : Operand) (t : TypeId) (hop : o.op = Op.call { callee := Callee.builtin Builtin.append, args := #[s, x], argTypes := #[t, t] })
    (base : Nat) (e : TypeId) (i : TypeInfo) (z : Value) (size bytes : Nat) (ht : P.underlying t = some (.slice e)) (hi : P.info? e = some i) (hz : i.zero = some z)
    (hsize : i.size = size) (hby : i.bytes = bytes) (hzs : z.cells.size = size) (hsz : 0 < size)
    (v : Value) (n : Nat) (xs : List Value) (hs : a.eval s = v) (hown : w.ownsRow base e size v n xs)
    (ad : Addr) (m c : Nat) (news : List Value) (hx : a.eval x = .slice (some ad) m c) (hl : news.length = m * size) (hnews : ∀ j u, news[j]? = some u → w.cell? (ad.add j) = some u) (h1 : ∀ u ∈ news, u.oneCell' = true)
    (h63 : n + m ≤ maxLen) (hbytes : (n + m) * bytes ≤ 140737488355328) (hbase : base ≤ w.heap.size)
    (hK : ∀ v' w', w'.ownsRow base e size v' (n + m) (xs ++ news) → w.grownBy w' v.ownBlock → K (a.put o.dst v') w') :
    if Region.wanted o (yielded ops a.tmps) = true then Oper.wp P o a w K Q else E := by
  have hw : Region.wanted o (yielded ops a.tmps) = true := by simp [Region.wanted, hg]
  rw [if_pos hw]
  obtain ⟨v', w', hr, h2, h3, _⟩ := run_append_own (P := P) w base t o.type e i z size bytes ht hi hz hsize hby hzs hsz v n xs hown ad m c news hl hnews h1 h63 hbytes hbase
  unfold Oper.wp execOp
  simp only [hop, resolve, invoke, builtin, Sem.run_bind, Sem.run_pure, Result.andThen_ok, List.map_toArray, List.map_cons, List.map_nil, hs, hx, hr]
  exact hK _ _ h2 h3

/-- The parts' box and row: what has come. -/
def Parts (n₀ bp : Nat) (rs : List (List UInt8)) (W : World) : Prop :=
  ∃ v, W.heap[bp]? = some (.cells #[v] 58 (0, 0)) ∧ W.ownsRow n₀ 9 1 v rs.length (rs.map fun r => .string ⟨r.toArray⟩)

theorem ownsRow_same {w w' : World} {base : Nat} {e : TypeId} {size n : Nat} {v : Value} {xs : List Value} (h : w.ownsRow base e size v n xs) (hk : ∀ g, v.ownBlock = some g → w'.heap[g]? = w.heap[g]?) : w'.ownsRow base e size v n xs := by
  obtain ⟨hl, hr⟩ := h
  refine ⟨hl, ?_⟩
  rcases hr with hr | ⟨g, cap, cur, rfl, hb, hg, rest⟩
  · exact .inl hr
  · exact .inr ⟨g, cap, cur, rfl, hb, (hk g rfl).trans hg, rest⟩
theorem ownsRow_lt {w : World} {base : Nat} {e : TypeId} {size n : Nat} {v : Value} {xs : List Value} (h : w.ownsRow base e size v n xs) : ∀ g, v.ownBlock = some g → g < w.heap.size ∧ base ≤ g ∧ ∃ c, w.heap[g]? = some (.cells c e (0, 0)) := by
  intro g hg
  rcases h.2 with ⟨rfl, _⟩ | ⟨g', cap, cur, rfl, hb, hgg, _⟩
  · simp [Value.ownBlock] at hg
  · simp [Value.ownBlock] at hg
    subst hg
    exact ⟨(Array.getElem?_eq_some_iff.1 hgg).1, hb, _, hgg⟩
theorem Parts.same {n₀ bp : Nat} {rs : List (List UInt8)} {W W' : World} (h : Parts n₀ bp rs W) (hb : n₀ ≤ bp) (hk : ∀ j c f, (W.heap[j]? = some (.cells c 58 f) ∨ W.heap[j]? = some (.cells c 9 f)) → n₀ ≤ j → W'.heap[j]? = W.heap[j]?) : Parts n₀ bp rs W' := by
  obtain ⟨v, h1, h2⟩ := h
  refine ⟨v, (hk _ _ _ (.inl h1) hb).trans h1, ownsRow_same h2 (fun g hg => ?_)⟩
  obtain ⟨_, hb', c, hc⟩ := ownsRow_lt h2 g hg
  exact hk _ _ _ (.inr hc) hb'
theorem Parts.below {n₀ bp : Nat} {rs : List (List UInt8)} {W W' : World} (h : Parts n₀ bp rs W) (hb : n₀ ≤ bp) (hk : Below W.heap.size W W') : Parts n₀ bp rs W' :=
  h.same hb (fun j c f hj _ => hk.block j (by rcases hj with hj | hj <;> exact (Array.getElem?_eq_some_iff.1 hj).1))

theorem one_new (w : World) (x : Value) (t : TypeId) : ∀ j u, [x][j]? = some u → (w.alloc (.cells #[x] t)).cell? ((⟨w.heap.size, 0, none⟩ : Addr).add j) = some u := by
  intro j u hj
  match j, hj with
  | 0, hj =>
    simp at hj
    subst hj
    simp [Addr.add]
theorem _root_.Go.World.ownsRow.alloc' {w : World} {base : Nat} {e : TypeId} {size n : Nat} {v : Value} {xs : List Value} (h : w.ownsRow base e size v n xs) (o : Obj) : (w.alloc o).ownsRow base e size v n xs :=
  ownsRow_same h (fun g hg => Below.heap_alloc w o g (ownsRow_lt h g hg).1)
theorem strInfo : (Tryd.prog.info? 9).map (fun i => (i.zero, i.size, i.bytes)) = some (some (.string ⟨#[]⟩), 1, 16) := by kernel_rfl

set_option maxHeartbeats 2000000 in
set_option maxRecDepth 100000 in
theorem joined1_calls {k : Nat} (hk : TextOK k) (n₀ bp : Nat) (x : S24) (v : Value) (r : List UInt8) (rs : List (List UInt8)) (w : World) (hL : LaidW w) (hv : TermV w x v) (hr : textF k x = some r)
    (hp : Parts n₀ bp rs w) (hb : n₀ ≤ bp) (hn : n₀ ≤ w.heap.size) (hlen : rs.length ≤ 1048576) :
    Calls Tryd.prog 99 #[v, .pointer (some ⟨bp, 0, none⟩)] w fun e w' => (∃ u, e = .returned u) ∧ Parts n₀ bp (rs ++ [r]) w' ∧ Below n₀ w w' ∧ Lib.OthersKept 9 (some bp) w w' := by
  obtain ⟨A, c, rfl, hc, hC⟩ := hv
  obtain ⟨pv, hpb, hown⟩ := hp
  have hHR := Lib.hid hr
  clear hr
  obtain ⟨i0, hi, hz0, hz1, hz2⟩ := info_parts strInfo
  have hu24 := Tryd.underlying24
  go_enter Tryd.func99, Tryd.ntmps99
  have hlt : bp < w.heap.size := (Array.getElem?_eq_some_iff.1 hpb).1
  have hbx : Below w.heap.size w (w.alloc (Obj.cells #[Value.int IntKind.u8 x.f0, Value.string x.f1, Value.int IntKind.i64 x.f2, Value.slice A x.f3.length c] 24)) := (Below.refl _ w).alloc (Nat.le_refl _) _
  have hL1 := hL.below hbx
  have hV1 : TermV _ x _ := TermV.below ⟨A, c, rfl, hc, hC⟩ hbx
  have hz1' := hbx.size
  have hpb1 := (hbx.block bp hlt).trans hpb
  have hown1 := ownsRow_same (w' := w.alloc (Obj.cells #[Value.int IntKind.u8 x.f0, Value.string x.f1, Value.int IntKind.i64 x.f2, Value.slice A x.f3.length c] 24)) hown (fun g hg => hbx.block g (ownsRow_lt hown g hg).1)
  have hk1 : Lib.OthersKept 9 (some bp) w (w.alloc (Obj.cells #[Value.int IntKind.u8 x.f0, Value.string x.f1, Value.int IntKind.i64 x.f2, Value.slice A x.f3.length c] 24)) := (Lib.OthersKept.refl _ _ _).alloc _
  go_wp2
  generalize hw1 : w.alloc (Obj.cells #[Value.int IntKind.u8 x.f0, Value.string x.f1, Value.int IntKind.i64 x.f2, Value.slice A x.f3.length c] 24) = w1 at hbx hL1 hV1 hz1' hpb1 hown1 hk1 ⊢
  have hT : w1.heap[w.heap.size]? = some (.cells #[Value.int IntKind.u8 x.f0, Value.string x.f1, Value.int IntKind.i64 x.f2, Value.slice A x.f3.length c] 24 (0, 0)) := by rw [← hw1]; exact (MapKept.heap_alloc w _).1
  clear hw1 hpb hown
  have t0 : w1.cell? ⟨w.heap.size, 0, none⟩ = some (.int .u8 x.f0) := Lib.cell_of_heap hT 0
  have t1 : w1.cell? ⟨w.heap.size, 1, none⟩ = some (.string x.f1) := Lib.cell_of_heap hT 1
  have t2 : w1.cell? ⟨w.heap.size, 2, none⟩ = some (.int .i64 x.f2) := Lib.cell_of_heap hT 2
  have t3 : w1.cell? ⟨w.heap.size, 3, none⟩ = some (.slice A x.f3.length c) := Lib.cell_of_heap hT 3
  have q1 : w1.cell? ⟨bp, 0, none⟩ = some pv := Lib.cell_of_heap hpb1 0
  go_region_law (first
    | (refine step_append_own rfl _ _ 58 rfl n₀ 9 i0 (.string ⟨#[]⟩) 1 16 Tryd.underlying58 hi hz0 hz1 hz2 rfl (by decide) pv rs.length _ rfl (hown2.alloc' _) ⟨w2.heap.size, 0, none⟩ 1 1 [.string ⟨r.toArray⟩] rfl rfl (Go.Proofs.YthnjdfblappkfaaDoor.one_new _ _ _) (by simp [Value.oneCell']) (by unfold maxLen; omega) (by omega) (by rw [World.size_alloc]; omega) ?_; intro v' w3 hown3 hgrow; obtain ⟨g', cap', rfl⟩ := ownsRow_succ hown3; have hpb3 := (hgrow.block bp (by rw [World.size_alloc]; omega) hne).trans ((Below.heap_alloc w2 _ bp hlt2).trans hpb2); have q3 := Lib.cell_of_heap hpb3 0; have f3 := Lib.frozen_of_heap hpb3 0)
    | (go_simp; go_at_call 38; refine (hk x _ r _ (hL1.below (Below.refl _ _).drew) (hV1.below (Below.refl _ _).drew) hHR.out).mono ?_; rintro e w2 ⟨rfl, hb2⟩; have hlt2 : bp < w2.heap.size := Nat.lt_of_lt_of_le (Nat.lt_of_lt_of_le hlt hz1') hb2.size; have hpb2 := (hb2.block bp (Nat.lt_of_lt_of_le hlt hz1')).trans hpb1; have q2 : w2.cell? ⟨bp, 0, none⟩ = some pv := Lib.cell_of_heap hpb2 0; have hown2 := ownsRow_same (w' := w2) hown1 (fun g hg => hb2.block g (ownsRow_lt hown1 g hg).1); have hne : some bp ≠ pv.ownBlock := (by intro e; obtain ⟨_, _, c, hc⟩ := ownsRow_lt hown1 bp e.symm; rw [hpb1] at hc; cases hc)))
  all_goals
    have hb2' : Below w1.heap.size w1 w2 := ((Below.refl _ w1).drew).trans hb2
    go_end0
    refine ⟨⟨_, rfl⟩, ⟨_, Boxed.set _ hpb3, ?_⟩, ?_, ?_⟩
    · rw [List.length_append, List.map_append]
      refine ownsRow_same hown3 (fun g hg => Below.heap_setCell _ _ _ _ ?_)
      intro (he : g = bp)
      obtain ⟨_, _, c, hc⟩ := ownsRow_lt hown3 g hg
      rw [he, hpb3] at hc
      cases hc
    · refine (((((hbx.mono hn).trans (hb2'.mono (Nat.le_trans hn hz1'))).alloc ?_ _).grown hgrow ?_ (fun g hg => (ownsRow_lt hown2 g hg).2.1))).setCell (p := ⟨bp, 0, none⟩) hb _
      · exact Nat.le_trans hn (Nat.le_trans hz1' hb2'.size)
      · rw [World.size_alloc]
        exact Nat.le_succ_of_le (Nat.le_trans hn (Nat.le_trans hz1' hb2'.size))
    · have o2 : Lib.OthersKept 9 (some bp) w1 w2 := fun j o hj _ _ => (hb2'.block j (Array.getElem?_eq_some_iff.1 hj).1).trans hj
      refine (((hk1.trans o2).alloc _).grown hgrow (fun g hg => ?_)).setCell ⟨bp, 0, none⟩ rfl _
      obtain ⟨hg1, _, c, hc⟩ := ownsRow_lt hown2 g hg
      exact ⟨c, (0, 0), (Below.heap_alloc w2 _ g hg1).trans hc⟩
end Go.Proofs.YthnjdfblappkfaaDoor
