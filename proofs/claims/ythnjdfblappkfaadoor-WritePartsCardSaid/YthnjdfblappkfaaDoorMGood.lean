/- Several small texts of this claim in one. -/
import Derived.Test.YthnjdfblappkfaaDoorWText
import Derived.Test.YthnjdfblappkfaaDoorMQuoted
import Derived.Test.YthnjdfblappkfaaDoorWJoined
section
/-
  term.name, term.good: whether a term is good.
-/
namespace Go.Proofs.YthnjdfblappkfaaDoor
open Go.RowKit Go.Proofs.YthnjdfblappkfaaDoorW.PrintWords Go.Proofs.YthnjdfblappkfaaDoorW.PrintLast Go.Proofs.YthnjdfblappkfaaDoorW.PrintMore Go.Proofs.YthnjdfblappkfaaDoor.P

/-- A byte that may not stand in a name. -/
def badI (n : Int) : Bool := (decide (n < 32) || decide (126 < n)) && n != 9 && n != 10
def badB (b : UInt8) : Bool := badI (b.toNat : Int)

set_option maxHeartbeats 1000000 in
theorem name1_calls (n : Int) (w : World) :
    Calls Tryd.prog 109 #[.int .u8 n] w fun e w' => e = .returned (.bool (badI n)) ∧ w' = w := by
  go_enter Tryd.func109, Tryd.ntmps109
  go_wp2
  all_goals
    go_ret
    refine ⟨?_, rfl⟩
    show Ending.returned (Value.bool _) = Ending.returned (Value.bool _)
    first
      | (congr 2; done)
      | (congr 2; simp_all [badI]; done)
      | (congr 2; simp [badI]; omega)

/-- slices.IndexFunc over bytes. -/
theorem idxB_calls (xs : List UInt8) (b n c : Nat) (w : World) (hn : xs.length = n) (hcell : ∀ i (h : i < xs.length), w.cell? ⟨b, i, none⟩ = some (.int .u8 (xs[i].toNat : Int))) (hlen : n ≤ 1099511627776) :
    Calls Tryd.prog 136 #[.slice (some ⟨b, 0, none⟩) n c, .func (.func 109) #[] #[]] w fun e w' => (∃ r : Int, e = .returned (.int .i64 r) ∧ decide (0 ≤ r) = xs.any badB) ∧ w' = w := by
  go_enter Tryd.func136, Tryd.ntmps136
  go_wp2
  go_loopw [8] (fun p wr => ∃ i : Nat, p = .int .i64 i ∧ i ≤ n ∧ (xs.take i).any badB = false ∧ wr = w) (fun p _ => n - (intOf p).toNat)
  case atStart => exact ⟨0, rfl, Nat.zero_le _, rfl, rfl⟩
  case round =>
    obtain ⟨i, rfl, hi, hnb, rfl⟩ := hrel
    by_cases hlt : i < n
    · have hd : decide ((i : Int) < (n : Int)) = true := by simp; omega
      have hxi : i < xs.length := by omega
      have hc := hcell i hxi
      have hsp : Hid (xs.take (i + 1) = xs.take i ++ [xs[i]]) := List.take_succ_eq_append_getElem hxi
      have hw : Hid (xs.any badB = true ∨ badB xs[i] = false) := by
        cases hb : badB xs[i] with
        | true => exact .inl (List.any_eq_true.2 ⟨_, List.getElem_mem _, hb⟩)
        | false => exact .inr rfl
      have hcall := name1_calls (xs[i].toNat : Int) wr
      cases hb : badB xs[i] with
      | true =>
        rw [show badI (xs[i].toNat : Int) = true from hb] at hcall
        have HB := Lib.hid hb
        clear hb
        go_wp2_with (go_at_call 109; refine hcall.mono ?_; rintro e w1 ⟨rfl, rfl⟩)
        go_ret
        refine ⟨⟨(i : Int), rfl, ?_⟩, rfl⟩
        have : xs.any badB = true := List.any_eq_true.2 ⟨_, List.getElem_mem hxi, HB.out⟩
        rw [this]
        simp
      | false =>
        rw [show badI (xs[i].toNat : Int) = false from hb] at hcall
        have HB := Lib.hid hb
        clear hb
        go_wp2_with (go_at_call 109; refine hcall.mono ?_; rintro e w1 ⟨rfl, rfl⟩)
        exact ⟨⟨i + 1, by simp, by omega, by rw [hsp.out, List.any_append, hnb]; simp [HB.out], by first | rfl | trivial⟩, by simp [intOf]; omega⟩
    · have hd : decide ((i : Int) < (n : Int)) = false := by simp; omega
      go_wp2
      go_ret
      refine ⟨⟨-1, rfl, ?_⟩, rfl⟩
      rw [List.take_of_length_le (by omega)] at hnb
      rw [hnb]
      rfl

theorem contB_calls (xs : List UInt8) (b n c : Nat) (w : World) (hn : xs.length = n) (hcell : ∀ i (h : i < xs.length), w.cell? ⟨b, i, none⟩ = some (.int .u8 (xs[i].toNat : Int))) (hlen : n ≤ 1099511627776) :
    Calls Tryd.prog 108 #[.slice (some ⟨b, 0, none⟩) n c, .func (.func 109) #[] #[]] w fun e w' => e = .returned (.bool (xs.any badB)) ∧ w' = w := by
  go_enter Tryd.func108, Tryd.ntmps108
  go_wp2_with (go_at_call 136; refine (idxB_calls xs b n c w hn hcell hlen).mono ?_; rintro e w1 ⟨⟨r, rfl, hr⟩, rfl⟩)
  all_goals
    go_ret
    refine ⟨?_, rfl⟩
    rw [← hr]
    rfl

theorem any_data (s : ByteArray) (p : UInt8 → Bool) : s.data.any p 0 s.size = (bl s).any p := by
  show s.data.any p = _
  rw [← Array.any_toList]
def nameOK (l : List UInt8) : Bool := decide (l.length ≤ 32) && !(l.any badB)

set_option maxHeartbeats 1000000 in
theorem name_calls (s : ByteArray) (w : World) :
    Calls Tryd.prog 79 #[.string s] w fun e w' => e = .returned (.bool (nameOK (bl s))) ∧ Below w.heap.size w w' := by
  have hcv := fun W => Lib.run_convert_string_bytes (P := Tryd.prog) W 9 107 5 s Tryd.underlying9 Tryd.underlying107 Tryd.underlying5
  have hbb := below_bytes (Below.refl w.heap.size w) (Nat.le_refl _) s
  have hcell : ∀ i (h : i < (bl s).length), (Lib.bytesWorld w 5 s).cell? ⟨w.heap.size, i, none⟩ = some (.int .u8 ((bl s)[i].toNat : Int)) := fun i h => by
    rw [Lib.bytesWorld_cell w _ s i h, List.getD_eq_getElem?_getD, List.getElem?_eq_getElem h]
    rfl
  by_cases hl : s.size ≤ 32
  · have hd : decide ((s.size : Int) ≤ 32) = true := by simp; omega
    have hv : Hid (nameOK (bl s) = !((bl s).any badB)) := by
      show _ = _
      unfold nameOK
      rw [decide_eq_true (by rw [bl_length]; exact hl)]
      rfl
    go_enter Tryd.func79, Tryd.ntmps79
    go_wp2_with (go_at_call 108; refine (contB_calls (bl s) w.heap.size s.size _ _ (bl_length s) hcell (by omega)).mono ?_; rintro e w1 ⟨rfl, rfl⟩)
    go_ret
    refine ⟨?_, hbb⟩
    rw [hv.out, ← any_data]
    rfl
  · have hd : decide ((s.size : Int) ≤ 32) = false := by simp; omega
    have hv : Hid (nameOK (bl s) = false) := by
      show _ = _
      unfold nameOK
      rw [decide_eq_false (by rw [bl_length]; exact hl)]
      rfl
    go_enter Tryd.func79, Tryd.ntmps79
    go_wp2
    go_ret
    exact ⟨by rw [hv.out]; rfl, Below.refl _ _⟩
end Go.Proofs.YthnjdfblappkfaaDoor
end
section
/-
  write.all: an iterator over a slice of terms.
-/
namespace Go.Proofs.YthnjdfblappkfaaDoor
open Go.RowKit Go.Proofs.YthnjdfblappkfaaDoorW.PrintWords Go.Proofs.YthnjdfblappkfaaDoorW.PrintLast Go.Proofs.YthnjdfblappkfaaDoorW.PrintMore Go.Proofs.YthnjdfblappkfaaDoor.P
attribute [local go_sem] Oper.semAt_some

theorem all_calls (A : Option Addr) (n c : Nat) (w : World) :
    Calls Tryd.prog 62 #[.slice A n c] w fun e w' => e = .returned (.func (.func 102) #[] #[.pointer (some ⟨w.heap.size, 0, none⟩)]) ∧ w' = w.alloc (.cells #[.slice A n c] 22) := by
  go_enter Tryd.func62, Tryd.ntmps62
  go_wp2
  go_ret
  exact ⟨rfl, rfl⟩

theorem rd_at (xs : List S24) (i : Nat) (h : i < xs.length) : rd_T24 xs (i : Int) = xs[i] := by
  unfold rd_T24
  simp [List.getD_eq_getElem?_getD, h]

theorem IterKeeps.alloc (n₀ : Nat) (W : World) (o : Obj) : IterKeeps n₀ W (W.alloc o) := ⟨rfl, rfl, rfl, by rw [World.size_alloc]; omega, fun k hk => .inl (Below.heap_alloc W o k hk)⟩
theorem IterKeeps.setCell {n₀ : Nat} {W : World} {b j : Nat} {c : Array Value} {f : Nat × Nat} (h : W.heap[b]? = some (.cells c 24 f)) (hb : n₀ ≤ b) (v : Value) : IterKeeps n₀ W (W.setCell ⟨b, j, none⟩ v) := by
  refine ⟨rfl, rfl, rfl, by simp, fun k hk => ?_⟩
  by_cases e : k = b
  · subst e
    exact .inr ⟨hb, c, f, h⟩
  · exact .inl (Below.heap_setCell _ _ _ _ e)

set_option maxHeartbeats 2000000 in
set_option maxRecDepth 100000 in
theorem all_iter (n₀ bl : Nat) (wb w : World) (A : Option Addr) (c : Nat) (xs : List S24) (h1 : wb.heap.size ≤ n₀) (hwb : Below wb.heap.size wb w)
    (hbl : w.heap[bl]? = some (.cells #[.slice A xs.length c] 22 (0, 0))) (hC : Kd.C k24 wb A xs.length xs) (hlen : xs.length ≤ 1048576) :
    IterOK 102 #[.pointer (some ⟨bl, 0, none⟩)] n₀ w xs.length (fun i v => ∃ h : i < xs.length, TermV wb xs[i] v) (fun _ => True) := by
  intro l bp J hbp hJ1 hJ2 hJ3 n W1 hJ0 hk1
  refine callsIn_of_wp Tryd.func102 rfl trivial ?_ rfl
  simp only [Tryd.ntmps102, List.size_toArray, List.length_cons, List.length_nil, Nat.reduceAdd, Nat.reduceSub, Array.replicate_succ, Array.replicate_zero, List.push_toArray, List.append_toArray, List.nil_append, List.cons_append]
  have hbl1 := (hk1 bl (Array.getElem?_eq_some_iff.1 hbl).1).trans hbl
  have c1 : W1.cell? ⟨bl, 0, none⟩ = some (.slice A xs.length c) := Lib.cell_of_heap hbl1 0
  have hu24 := Tryd.underlying24
  gi_wp2
  gi_loopw [7] (fun p wr => ∃ i : Nat, p = .int .i64 i ∧ i ≤ xs.length ∧ J i wr) (fun p _ => xs.length - (intOf p).toNat)
  case atStart => exact ⟨0, rfl, Nat.zero_le _, hJ0⟩
  case round =>
    obtain ⟨i, rfl, hi, hJ⟩ := hrel
    by_cases hlt : i < xs.length
    · have hd : decide ((i : Int) < (xs.length : Int)) = true := by simp; omega
      obtain ⟨hbW, hsW⟩ := hJ2 i wr hJ
      have hbb : Below wb.heap.size wb wr := hwb.trans (hbW.mono h1)
      obtain ⟨ad, A3, c3, rfl, e0, e1, e2, e3, hc3, hC3⟩ := at_T24 hC i (by omega) (by omega)
      rw [rd_at xs i hlt] at e0 e1 e2 e3 hc3 hC3
      rw [Int.toNat_natCast] at e0 e1 e2 e3
      have hV : TermV wb xs[i] (.agg #[.int .u8 xs[i].f0, .string xs[i].f1, .int .i64 xs[i].f2, .slice A3 xs[i].f3.length c3]) := ⟨A3, c3, rfl, hc3, hC3⟩
      have hJ' := hJ1 i wr _ hJ (IterKeeps.alloc n₀ wr (.cells #[.int .u8 xs[i].f0, .string xs[i].f1, .int .i64 xs[i].f2, .slice A3 xs[i].f3.length c3] 24))
      replace e0 := (hbb.cell (World.block_lt_of_cell? wb _ e0)).trans e0
      replace e1 := (hbb.cell (World.block_lt_of_cell? wb _ e1)).trans e1
      replace e2 := (hbb.cell (World.block_lt_of_cell? wb _ e2)).trans e2
      replace e3 := (hbb.cell (World.block_lt_of_cell? wb _ e3)).trans e3
      obtain ⟨fn, tmps, assign, body, hy, hR⟩ := hJ3 (n - 1) i _ _ hlt hJ' ⟨hlt, hV⟩
      have HR := Lib.hid hR
      clear hR
      gi_wp2
      refine ⟨fun h => absurd h (by simp [Fence.wide]), ?_⟩
      refine HR.out.mono ?_
      rintro e W3 ⟨rfl, hJ3', _⟩
      gi_wp2
      exact ⟨⟨i + 1, by simp, by omega, hJ3'⟩, by simp [intOf]; omega⟩
    · have hd : decide ((i : Int) < (xs.length : Int)) = false := by simp; omega
      obtain rfl : i = xs.length := by omega
      gi_wp2
      go_end0
      exact ⟨⟨_, rfl⟩, hJ, trivial⟩
end Go.Proofs.YthnjdfblappkfaaDoor
end
section
/-
  term.good: whether a term is good, to a depth.
-/
namespace Go.Proofs.YthnjdfblappkfaaDoor
open Go.RowKit Go.Proofs.YthnjdfblappkfaaDoorW.PrintWords Go.Proofs.YthnjdfblappkfaaDoorW.PrintLast Go.Proofs.YthnjdfblappkfaaDoorW.PrintMore Go.Proofs.YthnjdfblappkfaaDoor.P

/-- Whether a term is good, to a depth. -/
def goodM : Nat → S24 → Bool
  | 0, _ => false
  | d + 1, x =>
    if x.f0 = 1 then decide (0 ≤ x.f2) && decide (bl x.f1 = []) && decide (x.f3.length = 0)
    else if x.f0 = 2 then decide (bl x.f1 = []) && decide (x.f3.length = 0)
    else if x.f0 = 3 then decide (x.f2 = 0) && decide (x.f3.length = 0) && nameOK (bl x.f1)
    else if x.f0 = 4 then decide (x.f2 = 0) && decide (1 ≤ x.f3.length) && decide (x.f3.length ≤ 16) && nameOK (bl x.f1) && !(x.f3.any fun a => !goodM d a)
    else false

def GoodOK (d : Nat) : Prop := ∀ (x : S24) (v : Value) (w : World), TermV w x v →
  Calls Tryd.prog 46 #[v, .int .i64 (d : Int)] w fun e w' => e = .returned (.bool (goodM d x)) ∧ Below w.heap.size w w'

set_option maxHeartbeats 2000000 in
set_option maxRecDepth 100000 in
theorem good1_calls {d : Nat} (hd : GoodOK d) (hd0 : d ≤ 100) (x : S24) (v : Value) (bd : Nat) (w : World) (hv : TermV w x v) (hb : w.cell? ⟨bd, 0, none⟩ = some (.int .i64 ((d : Int) + 1))) :
    Calls Tryd.prog 81 #[v, .pointer (some ⟨bd, 0, none⟩)] w fun e w' => e = .returned (.bool (!goodM d x)) ∧ Below w.heap.size w w' := by
  obtain ⟨A, c, rfl, hc, hC⟩ := hv
  have hu24 := Tryd.underlying24
  have hbx : Below w.heap.size w (w.alloc (.cells #[.int .u8 x.f0, .string x.f1, .int .i64 x.f2, .slice A x.f3.length c] 24)) := (Below.refl _ w).alloc (Nat.le_refl _) _
  have hV1 : TermV _ x _ := TermV.below ⟨A, c, rfl, hc, hC⟩ hbx
  have hbs := World.block_lt_of_cell? w _ hb
  have hb1 := (hbx.cell hbs).trans hb
  go_enter Tryd.func81, Tryd.ntmps81
  go_wp2_with (go_at_call 46; refine (hd x _ _ hV1).mono ?_; rintro e w1 ⟨rfl, hb2⟩)
  go_ret
  exact ⟨rfl, hbx.trans (hb2.mono hbx.size)⟩

set_option maxHeartbeats 2000000 in
set_option maxRecDepth 100000 in
theorem idxT_calls {d : Nat} (hd : GoodOK d) (hd0 : d ≤ 100) (xs : List S24) (A : Option Addr) (c bd : Nat) (w : World) (hC : Kd.C k24 w A xs.length xs) (hlen : xs.length ≤ 16) (hb : w.cell? ⟨bd, 0, none⟩ = some (.int .i64 ((d : Int) + 1))) :
    Calls Tryd.prog 110 #[.slice A xs.length c, .func (.func 81) #[] #[.pointer (some ⟨bd, 0, none⟩)]] w fun e w' => (∃ r : Int, e = .returned (.int .i64 r) ∧ decide (0 ≤ r) = xs.any fun a => !goodM d a) ∧ Below w.heap.size w w' := by
  have hu24 := Tryd.underlying24
  have hbs := World.block_lt_of_cell? w _ hb
  go_enter Tryd.func110, Tryd.ntmps110
  go_wp2
  go_loopw [8] (fun p wr => ∃ i : Nat, p = .int .i64 i ∧ i ≤ xs.length ∧ ((xs.take i).any fun a => !goodM d a) = false ∧ Below w.heap.size w wr) (fun p _ => xs.length - (intOf p).toNat)
  case atStart => exact ⟨0, rfl, Nat.zero_le _, rfl, Below.refl _ _⟩
  case round =>
    obtain ⟨i, rfl, hi, hnb, hbw⟩ := hrel
    by_cases hlt : i < xs.length
    · have hdd : decide ((i : Int) < (xs.length : Int)) = true := by simp; omega
      obtain ⟨ad, A3, c3, rfl, e0, e1, e2, e3, hc3, hC3⟩ := at_T24 (Kd.C_below hC hbw) i (by omega) (by omega)
      rw [rd_at xs i hlt] at e0 e1 e2 e3 hc3 hC3
      rw [Int.toNat_natCast] at e0 e1 e2 e3
      have hV : TermV wr xs[i] (.agg #[.int .u8 xs[i].f0, .string xs[i].f1, .int .i64 xs[i].f2, .slice A3 xs[i].f3.length c3]) := ⟨A3, c3, rfl, hc3, hC3⟩
      have hsp : Hid (xs.take (i + 1) = xs.take i ++ [xs[i]]) := List.take_succ_eq_append_getElem hlt
      have hcall := good1_calls hd hd0 xs[i] _ bd wr hV ((hbw.cell hbs).trans hb)
      cases hg : goodM d xs[i] with
      | false =>
        rw [hg] at hcall
        have HG := Lib.hid hg
        have HC := Lib.hid hcall
        clear hg hcall
        go_wp2_with (go_at_call 81; refine HC.out.mono ?_; rintro e w1 ⟨rfl, hb1⟩)
        go_ret
        refine ⟨⟨(i : Int), rfl, ?_⟩, hbw.trans (hb1.mono hbw.size)⟩
        have : (xs.any fun a => !goodM d a) = true := List.any_eq_true.2 ⟨_, List.getElem_mem hlt, by rw [HG.out]; rfl⟩
        rw [this]
        simp
      | true =>
        rw [hg] at hcall
        have HG := Lib.hid hg
        have HC := Lib.hid hcall
        clear hg hcall
        go_wp2_with (go_at_call 81; refine HC.out.mono ?_; rintro e w1 ⟨rfl, hb1⟩)
        exact ⟨⟨i + 1, by simp, by omega, by rw [hsp.out, List.any_append, hnb]; simp [HG.out], hbw.trans (hb1.mono hbw.size)⟩, by simp [intOf]; omega⟩
    · have hdd : decide ((i : Int) < (xs.length : Int)) = false := by simp; omega
      go_wp2
      go_ret
      refine ⟨⟨-1, rfl, ?_⟩, hbw⟩
      rw [List.take_of_length_le (by omega)] at hnb
      rw [hnb]
      rfl

theorem contT_calls {d : Nat} (hd : GoodOK d) (hd0 : d ≤ 100) (xs : List S24) (A : Option Addr) (c bd : Nat) (w : World) (hC : Kd.C k24 w A xs.length xs) (hlen : xs.length ≤ 16) (hb : w.cell? ⟨bd, 0, none⟩ = some (.int .i64 ((d : Int) + 1))) :
    Calls Tryd.prog 80 #[.slice A xs.length c, .func (.func 81) #[] #[.pointer (some ⟨bd, 0, none⟩)]] w fun e w' => e = .returned (.bool (xs.any fun a => !goodM d a)) ∧ Below w.heap.size w w' := by
  go_enter Tryd.func80, Tryd.ntmps80
  go_wp2_with (go_at_call 110; refine (idxT_calls hd hd0 xs A c bd w hC hlen hb).mono ?_; rintro e w1 ⟨⟨r, rfl, hr⟩, hb1⟩)
  all_goals
    go_ret
    refine ⟨?_, hb1⟩
    rw [← hr]
    rfl
end Go.Proofs.YthnjdfblappkfaaDoor
end
