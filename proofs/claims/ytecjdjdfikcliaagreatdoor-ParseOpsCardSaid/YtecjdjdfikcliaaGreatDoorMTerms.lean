/- Several small texts of this claim in one. -/
import Derived.Test.YtecjdjdfikcliaaGreatDoorMPart
import Derived.Test.YtecjdjdfikcliaaGreatDoorLexW
import Derived.Test.YtecjdjdfikcliaaGreatDoorPRead2
import Derived.Defers
import Derived.Recover
section
/-
  parse.Terms, in plain Lean, where its terms are served.
-/
namespace Go.Proofs.YtecjdjdfikcliaaGreatDoor.Pr
open Go Go.Proofs.YtecjdjdfikcliaaGreatDoor
open Go.RowKit Go.Proofs.YtecjdjdfikcliaaGreatDoorW.PrintWords Go.Proofs.YtecjdjdfikcliaaGreatDoorW.PrintLast Go.Proofs.YtecjdjdfikcliaaGreatDoorW.PrintMore Go.Proofs.YtecjdjdfikcliaaGreatDoor.P

/-- The terms from a token on; or the place of the first error, where it lies behind a term. -/
def readsM (toks : List S62) : Nat → Nat → List S36 → Option (Except Int (List S36))
  | 0, _, _ => none
  | k + 1, i, acc =>
    if (tk toks i).f0 = 7 then some (.ok acc)
    else (termM toks 40 0 1200 i []).bind fun r =>
      if r.2.1 < i then none
      else if (tk toks r.2.1).f0 ≠ 6 then some (.error (tk toks r.2.1).f3)
      else if r.2.1 + 1 < toks.length then readsM toks k (r.2.1 + 1) (acc ++ [r.1]) else none

def termsM (s : ByteArray) : Option (Except Int (List S36)) :=
  match Lx.lex (bl s) with
  | .error _ => none
  | .ok l => if l.length ≤ 10000 ∧ 0 < l.length then readsM (l.map tokS) 40 0 [] else none

end Go.Proofs.YtecjdjdfikcliaaGreatDoor.Pr
end
section
/-
  What parse.Terms defers: it catches what fail throws.
-/
namespace Go.Proofs.YtecjdjdfikcliaaGreatDoor.Pr
open Go Go.Proofs.YtecjdjdfikcliaaGreatDoor
open Go.RowKit Go.Proofs.YtecjdjdfikcliaaGreatDoorW.PrintWords Go.Proofs.YtecjdjdfikcliaaGreatDoorW.PrintLast Go.Proofs.YtecjdjdfikcliaaGreatDoorW.PrintMore Go.Proofs.YtecjdjdfikcliaaGreatDoor.P

set_option maxHeartbeats 2000000 in
set_option maxRecDepth 100000 in
theorem catch_idle (v0 v1 v2 : Value) (W : World) :
    CallsD Tryz.prog 21 #[v0, v1, v2] .returning W fun e u' w' => e = .returned (.tuple #[]) ∧ u' = .returning ∧ w' = W := by
  refine callsD_of_wpS Tryz.func21 rfl fun c₀ cs hu => ?_
  simp only [Tryz.ntmps21, List.size_toArray, List.length_cons, List.length_nil, Nat.reduceAdd, Nat.reduceSub, Array.replicate_succ, Array.replicate_zero, List.push_toArray, List.append_toArray, List.nil_append, List.cons_append]
  refine wpS_seq ?_
  refine wpS_region ?_
  generalize hQ : Exit.thenS _ _ = QQ
  simp [wpOpsS, go_sem, recoverD, hu]
  rw [← hQ]
  simp only [Exit.thenS]
  refine wpS_of_wp ?_
  go_wp2
  cases c₀
  simp_all [bodyPostS, results, Tryz.results21]

set_option maxHeartbeats 2000000 in
set_option maxRecDepth 100000 in
theorem catch_wrong {W : World} {b b1 b2 : Nat} {vo va ve : Value} (at_ er : Int) (older : List PanicEntry) (h01 : b < b1) (h12 : b1 < b2) (h0 : W.heap[b]? = some (.cells #[vo] 28 (0, 0))) (h1 : W.heap[b1]? = some (.cells #[va] 3 (0, 0))) (h2 : W.heap[b2]? = some (.cells #[ve] 29 (0, 0))) :
    CallsD Tryz.prog 21 #[.pointer (some ⟨b, 0, none⟩), .pointer (some ⟨b1, 0, none⟩), .pointer (some ⟨b2, 0, none⟩)] (.panicking ({ v := wrongV at_ er, recovered := false } :: older)) W fun e u' w' =>
      e = .returned (.tuple #[]) ∧ u' = .panicking ({ v := wrongV at_ er, recovered := true } :: older) ∧ Below b W w' ∧ w'.cell? ⟨b, 0, none⟩ = some (.slice none 0 0) ∧ w'.cell? ⟨b1, 0, none⟩ = some (.int .i64 at_) ∧ w'.cell? ⟨b2, 0, none⟩ = some (.int .i64 er) := by
  have hta : ∀ (u : Value) (w : World), (Instr.typeAssert (.iface 56 u) 20 56 true).run Tryz.prog w = .ok (.tuple #[u, .bool true]) w := fun u w => rfl
  have l2 : b2 < W.heap.size := (Array.getElem?_eq_some_iff.1 h2).1
  have n0 : ¬ W.heap.size = b := by omega
  have n1 : ¬ W.heap.size = b1 := by omega
  have n2 : ¬ W.heap.size = b2 := by omega
  have k1 : ¬ b = b1 := by omega
  have k2 : ¬ b = b2 := by omega
  have k3 : ¬ b1 = b2 := by omega
  have k4 : ¬ b1 = b := by omega
  have k5 : ¬ b2 = b := by omega
  have k6 : ¬ b2 = b1 := by omega
  have m0 : ¬ b = W.heap.size := by omega
  have m1 : ¬ b1 = W.heap.size := by omega
  have m2 : ¬ b2 = W.heap.size := by omega
  unfold wrongV
  refine callsD_of_wpS Tryz.func21 rfl fun c₀ cs hu => ?_
  simp only [Tryz.ntmps21, List.size_toArray, List.length_cons, List.length_nil, Nat.reduceAdd, Nat.reduceSub, Array.replicate_succ, Array.replicate_zero, List.push_toArray, List.append_toArray, List.nil_append, List.cons_append]
  refine wpS_seq ?_
  refine wpS_region ?_
  generalize hQ : Exit.thenS _ _ = QQ
  simp [wpOpsS, go_sem, recoverD, hu]
  rw [← hQ]
  simp only [Exit.thenS]
  refine wpS_of_wp ?_
  go_wp2
  obtain ⟨W3, hW3⟩ : ∃ W3, W.alloc (.cells #[.int .i64 at_, .int .i64 er] 56) = W3 := ⟨_, rfl⟩
  have hb3 : Below W.heap.size W W3 := by rw [← hW3]; exact (Below.refl _ W).alloc (Nat.le_refl _) _
  have hX3 : W3.heap[W.heap.size]? = some (.cells #[.int .i64 at_, .int .i64 er] 56 (0, 0)) := by rw [← hW3]; exact (MapKept.heap_alloc W _).1
  rw [hW3]
  have q0 := (hb3.block b (by omega)).trans h0
  have q1 := (hb3.block b1 (by omega)).trans h1
  have q2 := (hb3.block b2 (by omega)).trans h2
  have a0 := Lib.cell_of_heap q0 0
  have a1 := Lib.cell_of_heap q1 0
  have a2 := Lib.cell_of_heap q2 0
  have f0 := Lib.frozen_of_heap q0 0
  have f1 := Lib.frozen_of_heap q1 0
  have f2 := Lib.frozen_of_heap q2 0
  have x0 := Lib.cell_of_heap hX3 0
  have x1 := Lib.cell_of_heap hX3 1
  clear q0 q1 q2 hX3 hW3 h0 h1 h2
  go_region
  all_goals
    go_wp2
    refine ⟨rfl, _, rfl, .tuple #[], results_none rfl _ _ _, rfl, rfl, ?_, ?_, ?_, ?_⟩
    · have hbb : Below b W W3 := hb3.mono (by omega)
      exact ((((hbb.setCell (p := ⟨b, 0, none⟩) (Nat.le_refl _) _).setCell (p := ⟨b1, 0, none⟩) (Nat.le_of_lt h01) _).setCell (p := ⟨b2, 0, none⟩) (Nat.le_of_lt (Nat.lt_trans h01 h12)) _)).drew
    · go_simp
    · go_simp
    · go_simp
end Go.Proofs.YtecjdjdfikcliaaGreatDoor.Pr
end
section
/-
  parse.Terms: the walk, where its terms are served.
-/
namespace Go.Proofs.YtecjdjdfikcliaaGreatDoor.Pr
open Go Go.Proofs.YtecjdjdfikcliaaGreatDoor
open Go.RowKit Go.Proofs.YtecjdjdfikcliaaGreatDoorW.PrintWords Go.Proofs.YtecjdjdfikcliaaGreatDoorW.PrintLast Go.Proofs.YtecjdjdfikcliaaGreatDoorW.PrintMore Go.Proofs.YtecjdjdfikcliaaGreatDoor.P

/-- What has been read: the terms, as rows' elements. -/
def OutQ (W : World) (base : Nat) (v : Value) (l : List S36) : Prop := ∃ inner, W.ownsRow base 39 5 v l.length inner ∧
  Reps (fun (x : S36) (cs : List Value) => ∃ A c nvx, cs = [.int .u8 x.f0, .string x.f1, .int .i64 x.f2, .slice A x.f3.length c, nvx] ∧ x.f3.length ≤ c ∧ Kd.F k36 W (fun k => base ≤ k ∧ some k ≠ v.ownBlock) A x.f3.length x.f3) 5 l inner
theorem OutQ.nil (W : World) (base : Nat) : OutQ W base (.slice none 0 0) [] := ⟨[], World.ownsRow_nil _ _ _ _, Reps.none _ _⟩
theorem OutQ.lt {W : World} {base : Nat} {v : Value} {l : List S36} (h : OutQ W base v l) (k : Nat) (hk : v.ownBlock = some k) : base ≤ k ∧ k < W.heap.size ∧ ∃ cs, W.heap[k]? = some (.cells cs 39 (0, 0)) := by
  obtain ⟨inner, ho, _⟩ := h
  have := ownsRow_lt ho k hk
  exact ⟨this.2.1, this.1, this.2.2⟩
theorem OutQ.form {W : World} {base : Nat} {v : Value} {l : List S36} (h : OutQ W base v l) : ∃ B c, v = .slice B l.length c := by
  obtain ⟨inner, ho, hr⟩ := h
  rcases ho.2 with ⟨rfl, e⟩ | ⟨g, cap, cur, rfl, _⟩
  · exact ⟨none, 0, by rw [e]⟩
  · exact ⟨_, cap, rfl⟩
/-- It stays while what it leads to stays. -/
theorem OutQ.keep {W W' : World} {base : Nat} {v : Value} {l : List S36} (h : OutQ W base v l) (hk : ∀ k, base ≤ k → k < W.heap.size → W'.heap[k]? = W.heap[k]?) : OutQ W' base v l := by
  have hlt := h.lt
  obtain ⟨inner, ho, hrep⟩ := h
  refine ⟨inner, ownsRow_same ho (fun k e => hk k (hlt k e).1 (hlt k e).2.1), hrep.imp_ (fun x cs hx => ?_)⟩
  obtain ⟨A, c, nvx, e, hc, hF⟩ := hx
  exact ⟨A, c, nvx, e, hc, Kd.F_mono (Kd.F_step (Kd.F_bound hF) (fun k hk1 hl => hk k hk1.1.1 hl)) (fun k hk1 => hk1.1)⟩

/-- The terms as they are returned. -/
def ReadsV (w : World) (v : Value) (l : List S36) : Prop := (∃ A c, v = .slice A l.length c) ∧ (0 < l.length → ∃ g c, v = .slice (some ⟨g, 0, none⟩) l.length c ∧ ∀ j (h : j < l.length), ∃ A' c', w.cell? ⟨g, j * 5, none⟩ = some (.int .u8 l[j].f0) ∧ w.cell? ⟨g, j * 5 + 1, none⟩ = some (.string l[j].f1) ∧
  w.cell? ⟨g, j * 5 + 2, none⟩ = some (.int .i64 l[j].f2) ∧ w.cell? ⟨g, j * 5 + 3, none⟩ = some (.slice A' l[j].f3.length c') ∧ l[j].f3.length ≤ c' ∧ Kd.C k36 w A' l[j].f3.length l[j].f3)
theorem OutQ.reads {W : World} {base : Nat} {v : Value} {l : List S36} (h : OutQ W base v l) : ReadsV W v l := by
  obtain ⟨inner, ho, hr⟩ := h
  rcases ho.2 with ⟨rfl, e⟩ | ⟨g, cap, cur, hv, _⟩
  · exact ⟨⟨none, 0, by rw [e]⟩, fun hj => absurd hj (by omega)⟩
  obtain ⟨A, c, hv2, _, _, hR⟩ := own_reads_row ho hr rfl
  refine ⟨⟨_, _, hv⟩, fun hl => ⟨g, cap, hv, fun j hj => ?_⟩⟩
  obtain ⟨ad, rfl, hcs⟩ := hR (by omega)
  rw [hv] at hv2
  injection hv2 with ha _ _
  injection ha with ha
  subst ha
  obtain ⟨cs, _, ⟨A', c', nvx, rfl, hc', hF⟩, hcell⟩ := hcs j l[j] (List.getElem?_eq_getElem hj)
  have e0 := hcell 0 _ rfl
  have e1 := hcell 1 _ rfl
  have e2 := hcell 2 _ rfl
  have e3 := hcell 3 _ rfl
  exact ⟨A', c', by simpa [Addr.add_lit] using e0, by simpa [Addr.add_lit, Nat.add_assoc] using e1, by simpa [Addr.add_lit, Nat.add_assoc] using e2, by simpa [Addr.add_lit, Nat.add_assoc] using e3, hc', Kd.F_now hF⟩
/-- What Terms answers. -/
def AnsR (w' : World) (e : Ending) : Except Int (List S36) → Prop
  | .ok l => ∃ v, e = .returned (.tuple #[v, .int .i64 0, .int .i64 0]) ∧ ReadsV w' v l
  | .error at_ => e = .returned (.tuple #[.slice none 0 0, .int .i64 at_, .int .i64 11])
/-- A box of one cell. -/
def Box1 (W : World) (b : Nat) (v : Value) (t : TypeId) : Prop := W.heap[b]? = some (.cells #[v] t (0, 0))

theorem Terms_results {wz : World} {b0 b1 b2 : Nat} {v0 v1 v2 : Value} {tmps : Array Value} (p0 : tmps[2]? = some (.pointer (some ⟨b0, 0, none⟩))) (p1 : tmps[3]? = some (.pointer (some ⟨b1, 0, none⟩))) (p2 : tmps[4]? = some (.pointer (some ⟨b2, 0, none⟩)))
    (h0 : wz.cell? ⟨b0, 0, none⟩ = some v0) (h1 : wz.cell? ⟨b1, 0, none⟩ = some v1) (h2 : wz.cell? ⟨b2, 0, none⟩ = some v2) : (results Tryz.f10 tmps).run Tryz.prog wz = .ok (.tuple #[v0, v1, v2]) wz := by
  simp [results, Tryz.results10, go_sem, p0, p1, p2, h0, h1, h2]
theorem Terms_ret {wz : World} {b0 b1 b2 : Nat} {v0 v1 v2 : Value} {tmps : Array Value} {R : Ending → World → Prop} (p0 : tmps[2]? = some (.pointer (some ⟨b0, 0, none⟩))) (p1 : tmps[3]? = some (.pointer (some ⟨b1, 0, none⟩))) (p2 : tmps[4]? = some (.pointer (some ⟨b2, 0, none⟩)))
    (h0 : wz.cell? ⟨b0, 0, none⟩ = some v0) (h1 : wz.cell? ⟨b1, 0, none⟩ = some v1) (h2 : wz.cell? ⟨b2, 0, none⟩ = some v2) (hfin : R (.returned (.tuple #[v0, v1, v2])) wz) :
    Leaves Tryz.prog Tryz.f10 tmps R [{ target := .fn (.func 21) #[.pointer (some ⟨b0, 0, none⟩), .pointer (some ⟨b1, 0, none⟩), .pointer (some ⟨b2, 0, none⟩)], args := #[] }] .returning wz := by
  refine leaves_cons (f := 21) (args := #[.pointer (some ⟨b0, 0, none⟩), .pointer (some ⟨b1, 0, none⟩), .pointer (some ⟨b2, 0, none⟩)]) (by simp) (by simp [go_sem]) ?_
  refine (catch_idle _ _ _ _).mono ?_
  rintro e u' w'' ⟨rfl, rfl, rfl⟩
  exact ⟨_, Terms_results p0 p1 p2 h0 h1 h2, hfin⟩
theorem Terms_panic {wz : World} {b0 b1 b2 : Nat} {va vb vc : Value} {tmps : Array Value} {R : Ending → World → Prop} (at_ er : Int) (p0 : tmps[2]? = some (.pointer (some ⟨b0, 0, none⟩))) (p1 : tmps[3]? = some (.pointer (some ⟨b1, 0, none⟩))) (p2 : tmps[4]? = some (.pointer (some ⟨b2, 0, none⟩))) (h01 : b0 < b1) (h12 : b1 < b2)
    (h0 : Box1 wz b0 va 28) (h1 : Box1 wz b1 vb 3) (h2 : Box1 wz b2 vc 29) (hfin : ∀ w', Below b0 wz w' → R (.returned (.tuple #[.slice none 0 0, .int .i64 at_, .int .i64 er])) w') :
    Leaves Tryz.prog Tryz.f10 tmps R [{ target := .fn (.func 21) #[.pointer (some ⟨b0, 0, none⟩), .pointer (some ⟨b1, 0, none⟩), .pointer (some ⟨b2, 0, none⟩)], args := #[] }] (.panicking [{ v := wrongV at_ er, recovered := false }]) wz := by
  refine leaves_cons (f := 21) (args := #[.pointer (some ⟨b0, 0, none⟩), .pointer (some ⟨b1, 0, none⟩), .pointer (some ⟨b2, 0, none⟩)]) (by simp) (by simp [go_sem]) ?_
  refine (catch_wrong at_ er [] h01 h12 h0 h1 h2).mono ?_
  rintro e u' w'' ⟨rfl, rfl, hb, k0, k1, k2⟩
  exact ⟨_, Terms_results p0 p1 p2 k0 k1 k2, hfin _ hb⟩

/-- The reader stays while another row is written. -/
theorem Rd.keepR {W W' : World} {rb c i deep t : Nat} {A : Option Addr} {toks : List S62} {ns : List ByteArray} {nv : Value} (h : Rd W rb A c toks i deep ns nv) (ht : t ≠ 9) (row : Option Nat) (hk : ∀ k, k < W.heap.size → some k ≠ row → W'.heap[k]? = W.heap[k]?)
    (hrow : ∀ g, row = some g → rb < g ∧ (g < W.heap.size → ∃ cs, W.heap[g]? = some (.cells cs t (0, 0)))) : Rd W' rb A c toks i deep ns nv := by
  have hl := h.rbl
  refine ⟨(hk rb hl (fun e => by have := (hrow rb e.symm).1; omega)).trans h.box, Kd.F_step h.row (fun k hk' hlt => hk k hlt (fun e => by have := (hrow k e.symm).1; omega)), ownsRow_same h.names (fun g hg => ?_), h.lt, h.few, h.deep64, h.names32⟩
  obtain ⟨hgl, _, cs, hcs⟩ := ownsRow_lt h.names g hg
  refine hk g hgl (fun e => ?_)
  obtain ⟨cs', hcs'⟩ := (hrow g e.symm).2 hgl
  rw [hcs] at hcs'
  injection hcs' with hcs'
  injection hcs' with _ ht' _
  exact ht ht'.symm

/-- append to a row of the call's own, as one step of a region that draws. -/
theorem step_append_own {P : Program} {ops : Array Oper} {o : Oper} {a : Act} {w : World} {K : Act → World → Prop} {Q : Exit → Act → World → Prop} {E : Prop} (hgd : o.guard = none) (s x : Operand) (t : TypeId)
    (ho : o.op = .call { callee := .builtin .append, args := #[s, x], argTypes := #[t, t] })
    (base : Nat) (e : TypeId) (i : TypeInfo) (z : Value) (size bytes : Nat) (ht : P.underlying t = some (.slice e)) (hi : P.info? e = some i) (hz : i.zero = some z)
    (hsize : i.size = size) (hby : i.bytes = bytes) (hzs : z.cells.size = size) (hsz : 0 < size)
    (v : Value) (n : Nat) (xs : List Value) (hs : a.eval s = v) (hown : w.ownsRow base e size v n xs)
    (ad : Addr) (m c : Nat) (news : List Value) (hx : a.eval x = .slice (some ad) m c) (hl : news.length = m * size) (hnews : ∀ j u, news[j]? = some u → w.cell? (ad.add j) = some u) (h1 : ∀ u ∈ news, u.oneCell' = true)
    (h63 : n + m ≤ maxLen) (hbytes : (n + m) * bytes ≤ 140737488355328) (hbase : base ≤ w.heap.size)
    (h : ∀ v' w', w'.ownsRow base e size v' (n + m) (xs ++ news) → w.grownBy w' v.ownBlock → (v' = .slice none 0 0 ↔ v = .slice none 0 0 ∧ m = 0) → (v'.ownBlock = v.ownBlock ∨ v'.ownBlock = some w.heap.size) → K (a.put o.dst v') w') :
    if Region.wanted o (yielded ops a.tmps) = true then Oper.wp P o a w K Q else E := by
  have hw : Region.wanted o (yielded ops a.tmps) = true := by simp [Region.wanted, hgd]
  rw [if_pos hw]
  obtain ⟨v', w', hr, h2, h3, h4, h5⟩ := run_append_own_at (P := P) w base t o.type e i z size bytes ht hi hz hsize hby hzs hsz v n xs hown ad m c news hl hnews h1 h63 hbytes hbase
  unfold Oper.wp execOp
  simp only [ho, resolve, invoke, builtin, Sem.run_bind, Sem.run_pure, Result.andThen_ok, List.map_toArray, List.map_cons, List.map_nil, hs, hx, hr]
  exact h v' w' h2 h3 h4 h5
theorem readInfo : (Tryz.prog.info? 39).map (fun i => (i.zero, i.size, i.bytes)) = some (some (.agg #[.int .u8 0, .string ⟨#[]⟩, .int .i64 0, .slice none 0 0, .slice none 0 0]), 5, 80) := by kernel_rfl

set_option maxHeartbeats 8000000 in
set_option maxRecDepth 100000 in
theorem Terms_calls (hOK : ∀ (w0 : World) (rb : Nat) (A : Option Addr) (c : Nat) (toks : List S62) (k : Nat), w0.heap.size ≤ rb → LaidP w0 → TermOK w0 rb A c toks k)
    {s : ByteArray} {r : Except Int (List S36)} (hr : termsM s = some r) (w : World) (hE : LaidE w) (hP : LaidP w) :
    Calls Tryz.prog 10 #[.string s] w fun e w' => Below w.heap.size w w' ∧ AnsR w' e r := by
  unfold termsM at hr
  cases hlx : Lx.lex (bl s) with
  | error q => rw [hlx] at hr; cases hr
  | ok lt =>
  rw [hlx] at hr
  simp only [] at hr
  by_cases hlen : lt.length ≤ 10000 ∧ 0 < lt.length
  rotate_left
  · rw [if_neg hlen] at hr; cases hr
  rw [if_pos hlen] at hr
  obtain ⟨hl1, hl0⟩ := hlen
  have hu39 := Tryz.underlying36
  have hu48 := Tryz.underlying62
  have hu68 := Tryz.underlying60
  have hu42 := Tryz.underlying39
  have hmf : ∀ (fn : Fn) (first cap : Array Value) (w : World), (Instr.makeFunc fn first cap).run Tryz.prog w = .ok (.func fn first cap) w := fun _ _ _ _ => rfl
  obtain ⟨toks, htoks⟩ : ∃ t, lt.map tokS = t := ⟨_, rfl⟩
  have hlf : lex_Lex.f s = some (toks, 0, 0) := by unfold lex_Lex.f; rw [hlx, ← htoks]
  have htl : toks.length = lt.length := by rw [← htoks, List.length_map]
  rw [htoks] at hr
  rw [← htl] at hl1 hl0
  clear htl htoks hlx
  obtain ⟨Wa, hWa⟩ : ∃ W', w.alloc (.cells #[.slice none 0 0] 28) = W' := ⟨_, rfl⟩
  have hba : Below w.heap.size w Wa := by rw [← hWa]; exact (Below.refl _ w).alloc (Nat.le_refl _) _
  have hBa : Wa.heap[w.heap.size]? = some (.cells #[.slice none 0 0] 28 (0, 0)) := by rw [← hWa]; exact (MapKept.heap_alloc w _).1
  have HZa : Hid (Wa.heap.size = w.heap.size + 1) := by rw [← hWa]; exact World.size_alloc _ _
  obtain ⟨Wb, hWb⟩ : ∃ W', Wa.alloc (.cells #[.int .i64 0] 3) = W' := ⟨_, rfl⟩
  have hbb : Below Wa.heap.size Wa Wb := by rw [← hWb]; exact (Below.refl _ Wa).alloc (Nat.le_refl _) _
  have hBb : Wb.heap[Wa.heap.size]? = some (.cells #[.int .i64 0] 3 (0, 0)) := by rw [← hWb]; exact (MapKept.heap_alloc Wa _).1
  have HZb : Hid (Wb.heap.size = Wa.heap.size + 1) := by rw [← hWb]; exact World.size_alloc _ _
  obtain ⟨Wc, hWc⟩ : ∃ W', Wb.alloc (.cells #[.int .i64 0] 29) = W' := ⟨_, rfl⟩
  have hbc : Below Wb.heap.size Wb Wc := by rw [← hWc]; exact (Below.refl _ Wb).alloc (Nat.le_refl _) _
  have hBc : Wc.heap[Wb.heap.size]? = some (.cells #[.int .i64 0] 29 (0, 0)) := by rw [← hWc]; exact (MapKept.heap_alloc Wb _).1
  have HZc : Hid (Wc.heap.size = Wb.heap.size + 1) := by rw [← hWc]; exact World.size_alloc _ _
  have hbW : Below w.heap.size w Wc := (hba.trans (hbb.mono hba.size)).trans (hbc.mono (Nat.le_trans hba.size hbb.size))
  have hlex := lex_Lex.calls s toks 0 0 Wc (hE.below hbW) hlf
  have HLEX := Lib.hid hlex
  have HR := Lib.hid hr
  have hBa2 := (hbc.block w.heap.size (by have := HZa.out; have := HZb.out; omega)).trans ((hbb.block w.heap.size (by have := HZa.out; omega)).trans hBa)
  have hBb2 := (hbc.block Wa.heap.size (by have := HZb.out; omega)).trans hBb
  have la : w.heap.size < Wc.heap.size := (Array.getElem?_eq_some_iff.1 hBa2).1
  have lb : Wa.heap.size < Wc.heap.size := (Array.getElem?_eq_some_iff.1 hBb2).1
  have lc : Wb.heap.size < Wc.heap.size := (Array.getElem?_eq_some_iff.1 hBc).1
  have HBa := Lib.hid hBa2
  have HBb := Lib.hid hBb2
  have HBc := Lib.hid hBc
  have HbW := Lib.hid hbW
  clear hlex hr hlf hBa hBb hBa2 hBb2 hBc hba hbb hbc hbW
  go_enter_defers Tryz.func10, Tryz.ntmps10
  go_wp2_with fail
  go_at_call 20
  refine HLEX.out.mono ?_
  rintro e wl ⟨v0, rfl, hRl, hbl⟩
  obtain ⟨A, c, rfl⟩ := Kd.R_slice hRl
  have hFl := Kd.R_F (Kd.R_bound hRl)
  have hBa := (hbl.block w.heap.size la).trans HBa.out
  have hBb := (hbl.block Wa.heap.size lb).trans HBb.out
  have hBc := (hbl.block Wb.heap.size lc).trans HBc.out
  have b1 := Lib.cell_of_heap hBb 0
  have b2 := Lib.cell_of_heap hBc 0
  have f1 := Lib.frozen_of_heap hBb 0
  have f2 := Lib.frozen_of_heap hBc 0
  have nab : ¬ Wa.heap.size = Wb.heap.size := by have := HZb.out; omega
  have nba : ¬ Wb.heap.size = Wa.heap.size := by have := HZb.out; omega
  obtain ⟨w4, hw4⟩ : ∃ w4, (wl.setCell ⟨Wa.heap.size, 0, none⟩ (.int .i64 0)).setCell ⟨Wb.heap.size, 0, none⟩ (.int .i64 0) = w4 := ⟨_, rfl⟩
  have hoth4 : ∀ q, q ≠ Wa.heap.size → q ≠ Wb.heap.size → w4.heap[q]? = wl.heap[q]? := fun q h1 h2 => by rw [← hw4, Below.heap_setCell _ _ _ _ h2, Below.heap_setCell _ _ _ _ h1]
  have hs4 : w4.heap.size = wl.heap.size := by rw [← hw4]; simp [World.setCell]
  have hB4a : w4.heap[w.heap.size]? = some (.cells #[.slice none 0 0] 28 (0, 0)) := (hoth4 _ (by have := HZa.out; omega) (by have := HZa.out; have := HZb.out; omega)).trans hBa
  have hB4b : w4.heap[Wa.heap.size]? = some (.cells #[.int .i64 0] 3 (0, 0)) := by
    rw [← hw4, Below.heap_setCell _ _ _ _ nab]
    exact heap_setCell_same hBb 0 _
  have hB4c : w4.heap[Wb.heap.size]? = some (.cells #[.int .i64 0] 29 (0, 0)) := by
    rw [← hw4]
    exact heap_setCell_same ((Below.heap_setCell _ _ _ _ nba).trans hBc) 0 _
  have hb4 : Below w.heap.size w w4 := by
    have h1 := HbW.out.trans (hbl.mono HbW.out.size)
    rw [← hw4]
    exact (h1.setCell (p := ⟨Wa.heap.size, 0, none⟩) (by have := HZa.out; show w.heap.size ≤ Wa.heap.size; omega) _).setCell (p := ⟨Wb.heap.size, 0, none⟩) (by have := HZa.out; have := HZb.out; show w.heap.size ≤ Wb.heap.size; omega) _
  have c2 := Lib.cell_of_heap hB4c 0
  obtain ⟨w5, hw5⟩ : ∃ w5, w4.alloc (.cells #[.slice A toks.length c, .int .i64 0, .int .i64 0, .slice none 0 0, .int .i64 0] 60) = w5 := ⟨_, rfl⟩
  have hb45 : Below w4.heap.size w4 w5 := by rw [← hw5]; exact (Below.refl _ w4).alloc (Nat.le_refl _) _
  have hbox : w5.heap[w4.heap.size]? = some (.cells #[.slice A toks.length c, .int .i64 0, .int .i64 0, .slice none 0 0, .int .i64 0] 60 (0, 0)) := by rw [← hw5]; exact (MapKept.heap_alloc w4 _).1
  have hR5 : Rd w5 w4.heap.size A c toks 0 0 [] (.slice none 0 0) := by
    refine ⟨hbox, ?_, World.ownsRow_nil _ _ _ _, hl0, hl1, by decide, by decide⟩
    refine Kd.F_mono (Kd.F_step hFl (fun k hk hlt => ?_)) (fun k hk => by rw [hs4]; exact hk.2.2.1)
    have h1 := hk.2.1
    exact (hb45.block k (by omega)).trans (hoth4 k (by omega) (by omega))
  have HROW5 : Hid (Kd.F k62 w5 (fun q => Wb.heap.size < q ∧ q < w4.heap.size) A toks.length toks) :=
    Kd.F_mono (Kd.F_step hFl (fun k hk hlt => by
      have h1 := hk.2.1
      exact (hb45.block k (by omega)).trans (hoth4 k (by omega) (by omega)))) (fun k hk => ⟨by have h1 := hk.2.1; omega, by rw [hs4]; exact hk.2.2.1⟩)
  have hlw4 : Wb.heap.size < w4.heap.size := (Array.getElem?_eq_some_iff.1 hB4c).1
  have HR5 := Lib.hid hR5
  have HBa5 : Hid (Box1 w5 w.heap.size (.slice none 0 0) 28) := (hb45.block _ (Array.getElem?_eq_some_iff.1 hB4a).1).trans hB4a
  have HBb5 : Hid (Box1 w5 Wa.heap.size (.int .i64 0) 3) := (hb45.block _ (Array.getElem?_eq_some_iff.1 hB4b).1).trans hB4b
  have HBc5 : Hid (Box1 w5 Wb.heap.size (.int .i64 0) 29) := (hb45.block _ (Array.getElem?_eq_some_iff.1 hB4c).1).trans hB4c
  have Hb5 : Hid (Below w.heap.size w w5) := hb4.trans (hb45.mono hb4.size)
  have hrbw : w.heap.size ≤ w4.heap.size := hb4.size
  have m01 : ¬ w.heap.size = Wa.heap.size := by have := HZa.out; omega
  have m10 : ¬ Wa.heap.size = w.heap.size := fun e => m01 e.symm
  have m02 : ¬ w.heap.size = Wb.heap.size := by have := HZa.out; have := HZb.out; omega
  have m20 : ¬ Wb.heap.size = w.heap.size := fun e => m02 e.symm
  have HLW := Lib.hid hlw4
  clear hbox hR5 hB4a hB4b hB4c hb4 hb45 hFl hRl hBa hBb hBc hoth4 hs4 hlw4
  go_wp2
  go_loopw [7] (fun _ wr => ∃ (k i : Nat) (acc : List S36) (vo nv : Value) (ns : List ByteArray), Rd wr w4.heap.size A c toks i 0 ns nv ∧ OutQ wr (w4.heap.size + 1) vo acc ∧ Box1 wr w.heap.size vo 28 ∧ Box1 wr Wa.heap.size (.int .i64 0) 3 ∧ Box1 wr Wb.heap.size (.int .i64 0) 29 ∧
      Below w.heap.size w wr ∧ Hid (readsM toks k i acc = some r ∧ acc.length ≤ i) ∧ Kd.F k62 wr (fun q => Wb.heap.size < q ∧ q < w4.heap.size) A toks.length toks) (fun _ wr => toks.length - (intOf ((wr.cell? ⟨w4.heap.size, 1, none⟩).getD .nilIface)).toNat)
  case atStart => exact ⟨40, 0, [], _, _, [], HR5.out, OutQ.nil _ _, HBa5.out, HBb5.out, HBc5.out, Hb5.out, ⟨HR.out, Nat.le_refl _⟩, HROW5.out⟩
  case round =>
    obtain ⟨k, i, acc, vo, nv, ns, hRd, hO, hBa, hBb, hBc, hbw, hl, hrw⟩ := hrel
    obtain ⟨hl, hacc⟩ := hl.out
    cases k with
    | zero => rw [readsM] at hl; cases hl
    | succ k =>
    rw [readsM] at hl
    obtain ⟨Bo, co, rfl⟩ := hO.form
    obtain ⟨ad, rfl, r0, r1, r2, r3, hN⟩ := hRd.cells
    have s0 := (hN i hRd.lt).1
    have hlt := hRd.lt
    have htk := tk_eq toks i hRd.lt
    obtain ⟨T, hT⟩ : ∃ T, toks[i]'hRd.lt = T := ⟨_, rfl⟩
    rw [hT] at s0 htk
    rw [htk] at hl
    have HS : Hid (∀ W', Below wr.heap.size wr W' → W'.cell? ⟨w4.heap.size, 0, none⟩ = some (.slice (some ad) toks.length c) ∧ W'.cell? ⟨w4.heap.size, 1, none⟩ = some (.int .i64 i) ∧ W'.cell? (ad.add (i * 5)) = some (.int .u8 T.f0)) :=
      fun W' hW => ⟨(hW.cell (World.block_lt_of_cell? wr _ r0)).trans r0, (hW.cell (World.block_lt_of_cell? wr _ r1)).trans r1, (hW.cell (World.block_lt_of_cell? wr _ s0)).trans s0⟩
    have hD0 := HS.out _ ((Below.refl _ wr).drew)
    have HRd := Lib.hid hRd
    have HO := Lib.hid hO
    have HBa' := Lib.hid hBa
    have HBb' := Lib.hid hBb
    have HBc' := Lib.hid hBc
    have Hbw := Lib.hid hbw
    have HL := Lib.hid hl
    have c1r := Lib.hid r1
    have HROW := Lib.hid hrw
    clear hrw hRd hO hBa hBb hBc hbw hl r0 r1 r2 r3 hN s0 hT htk HS HR5 HBa5 HBb5 HBc5
    go_wp2_with fail
    refine wp_region_noPanic ?_
    go_region_held (fun W' => W'.cell? ⟨w4.heap.size, 0, none⟩ = some (.slice (some ad) toks.length c) ∧ W'.cell? ⟨w4.heap.size, 1, none⟩ = some (.int .i64 i) ∧ W'.cell? (ad.add (i * 5)) = some (.int .u8 T.f0))
      (exact hD0)
      (fail)
    refine NoPanic.normal ?_
    by_cases c7 : T.f0 = 7
    · have k7 : (T.f0 != 7) = false := by simp [c7]
      have hl7 := HL.out
      rw [if_pos c7] at hl7
      injection hl7 with hl7
      subst hl7
      clear c7 hD0
      have cBa := Lib.cell_of_heap HBa'.out 0
      have cBb := Lib.cell_of_heap HBb'.out 0
      have cBc := Lib.cell_of_heap HBc'.out 0
      have fBa := Lib.frozen_of_heap HBa'.out 0
      have fBb := Lib.frozen_of_heap HBb'.out 0
      have fBc := Lib.frozen_of_heap HBc'.out 0
      go_wp2
      have bz : Below w.heap.size w ((((wr.setCell ⟨w.heap.size, 0, none⟩ (.slice Bo acc.length co)).setCell ⟨Wa.heap.size, 0, none⟩ (.int .i64 0)).setCell ⟨Wb.heap.size, 0, none⟩ (.int .i64 0))) := (((Hbw.out.setCell (p := ⟨w.heap.size, 0, none⟩) (Nat.le_refl _) _).setCell (p := ⟨Wa.heap.size, 0, none⟩) (by have := HZa.out; show w.heap.size ≤ Wa.heap.size; omega) _).setCell (p := ⟨Wb.heap.size, 0, none⟩) (by have := HZa.out; have := HZb.out; show w.heap.size ≤ Wb.heap.size; omega) _)
      refine Terms_ret (b0 := w.heap.size) (b1 := Wa.heap.size) (b2 := Wb.heap.size) (v0 := .slice Bo acc.length co) (v1 := .int .i64 0) (v2 := .int .i64 0) rfl rfl rfl (by go_simp) (by go_simp) (by go_simp) ⟨bz.drew, _, rfl, ?_⟩
      refine (HO.out.keep (W' := _) (fun q h1 _ => ?_)).reads
      have h2 := HLW.out
      have h3 := HZa.out
      have h4 := HZb.out
      show ((((wr.setCell ⟨w.heap.size, 0, none⟩ _).setCell ⟨Wa.heap.size, 0, none⟩ _).setCell ⟨Wb.heap.size, 0, none⟩ _)).heap[q]? = _
      rw [Below.heap_setCell _ _ _ _ (by show q ≠ Wb.heap.size; omega), Below.heap_setCell _ _ _ _ (by show q ≠ Wa.heap.size; omega), Below.heap_setCell _ _ _ _ (by show q ≠ w.heap.size; omega)]
    · have k7 : (T.f0 != 7) = true := by simp [c7]
      have hl7 := HL.out
      rw [if_neg c7] at hl7
      cases ht : termM toks 40 0 1200 i [] with
      | none => rw [ht] at hl7; cases hl7
      | some q =>
      obtain ⟨x, i', ns'⟩ := q
      rw [ht, Option.bind_some] at hl7
      simp only [] at hl7
      by_cases hle : i' < i
      · rw [if_pos hle] at hl7; cases hl7
      rw [if_neg hle] at hl7
      have HL7 := Lib.hid hl7
      clear hl7 c7 hD0
      have r3 := Lib.cell_of_heap HRd.out.box 3
      have f3 := Lib.frozen_of_heap HRd.out.box 3
      obtain ⟨w6, hw6⟩ : ∃ w6, (wr.setCell ⟨w4.heap.size, 3, none⟩ (.slice none 0 0)).drew = w6 := ⟨_, rfl⟩
      have hoth6 : ∀ q, q ≠ w4.heap.size → w6.heap[q]? = wr.heap[q]? := fun q hq => by rw [← hw6]; exact Below.heap_setCell _ _ _ _ hq
      have hs6 : w6.heap.size = wr.heap.size := by rw [← hw6]; simp [World.setCell]
      have hR6 : Rd w6 w4.heap.size (some ad) c toks i 0 [] (.slice none 0 0) := by
        refine ⟨?_, Kd.F_step HRd.out.row (fun q hq _ => hoth6 q (by omega)), World.ownsRow_nil _ _ _ _, HRd.out.lt, HRd.out.few, by decide, by decide⟩
        rw [← hw6]
        exact heap_setCell_same HRd.out.box 3 _
      have hb6 : Below w.heap.size w w6 := by rw [← hw6]; exact (Hbw.out.setCell (p := ⟨w4.heap.size, 3, none⟩) hrbw _).drew
      have HTM := Lib.hid (hOK w w4.heap.size (some ad) c toks 40 hrbw hP 0 1200 i [] x i' ns' w6 (.slice none 0 0) ht hR6 hb6)
      have hO6 : OutQ w6 (w4.heap.size + 1) (.slice Bo acc.length co) acc := HO.out.keep (fun q h1 _ => hoth6 q (by omega))
      have hA6 : Box1 w6 w.heap.size (.slice Bo acc.length co) 28 := (hoth6 _ (by have := HLW.out; have := HZa.out; have := HZb.out; omega)).trans HBa'.out
      have hB6 : Box1 w6 Wa.heap.size (.int .i64 0) 3 := (hoth6 _ (by have := HLW.out; have := HZa.out; have := HZb.out; omega)).trans HBb'.out
      have hC6 : Box1 w6 Wb.heap.size (.int .i64 0) 29 := (hoth6 _ (by have := HLW.out; have := HZa.out; have := HZb.out; omega)).trans HBc'.out
      have HROW6 := Lib.hid (Kd.F_step HROW.out (fun q hq _ => hoth6 q (by have := hq.2; omega)))
      have HLT6 := Lib.hid (fun g hg => (hO6.lt g hg).2.1)
      have HR6 := Lib.hid hR6
      have Hb6 := Lib.hid hb6
      have HO6 := Lib.hid hO6
      have HA6 := Lib.hid hA6
      have HB6 := Lib.hid hB6
      have HC6 := Lib.hid hC6
      have HLE := Lib.hid hle
      clear hR6 hb6 hO6 hA6 hB6 hC6 hoth6 hs6 ht hle HRd HO HBa' HBb' HBc' Hbw
      go_wp2_with fail
      go_at_call 22
      refine HTM.out.mono ?_
      rintro e w7 ⟨v, nv7, rfl, hR7, hF67, hx⟩
      obtain ⟨A7, c7, rfl, hc7, hF7⟩ := hx
      obtain ⟨Bn, cn, rfl⟩ : ∃ B c', nv7 = .slice B ns'.length c' := by
        rcases hR7.names.2 with ⟨rfl, e⟩ | ⟨g, cap, cur, rfl, _⟩
        · exact ⟨none, 0, by rw [e]⟩
        · exact ⟨_, cap, rfl⟩
      have keep67 : ∀ q, q < w6.heap.size → q ≠ w4.heap.size → w7.heap[q]? = w6.heap[q]? := fun q h1 h2 => hF67.block q h1 h2 (by simp [Value.ownBlock])
      have hO7 := HO6.out.keep (fun q h1 h2 => keep67 q h2 (by omega))
      have hA7 := (keep67 w.heap.size (Array.getElem?_eq_some_iff.1 HA6.out).1 (by have := HLW.out; have := HZa.out; have := HZb.out; omega)).trans HA6.out
      have hB7 := (keep67 Wa.heap.size (Array.getElem?_eq_some_iff.1 HB6.out).1 (by have := HLW.out; have := HZa.out; have := HZb.out; omega)).trans HB6.out
      have hC7 := (keep67 Wb.heap.size (Array.getElem?_eq_some_iff.1 HC6.out).1 (by have := HLW.out; have := HZa.out; have := HZb.out; omega)).trans HC6.out
      have hb7 : Below w.heap.size w w7 := Fr.base Hb6.out HR6.out hrbw hF67
      obtain ⟨w8, hw8⟩ : ∃ w8, w7.alloc (.cells #[.int .u8 x.f0, .string x.f1, .int .i64 x.f2, .slice A7 x.f3.length c7] 36) = w8 := ⟨_, rfl⟩
      have HW8 := Lib.hid hw8
      have hb78 : Below w7.heap.size w7 w8 := by rw [← hw8]; exact (Below.refl _ _).alloc (Nat.le_refl _) _
      have hX8 : w8.heap[w7.heap.size]? = some (.cells #[.int .u8 x.f0, .string x.f1, .int .i64 x.f2, .slice A7 x.f3.length c7] 36 (0, 0)) := by rw [← hw8]; exact (MapKept.heap_alloc w7 _).1
      have hR8 := hR7.below hb78
      have hF8 := Kd.F_below (Kd.F_bound hF7) hb78
      have HROW8 := Lib.hid (Kd.F_step (Kd.F_step HROW6.out (fun q hq hlt => keep67 q hlt (by have := hq.2; omega))) (fun q _ hlt => hb78.block q hlt))
      have HR8 := Lib.hid hR8
      have HX8 := Lib.hid hX8
      have HF8 := Lib.hid hF8
      have HO8 := Lib.hid (hO7.keep (fun q _ h2 => hb78.block q h2))
      have HA8 := Lib.hid ((hb78.block _ (Array.getElem?_eq_some_iff.1 hA7).1).trans hA7)
      have HB8 := Lib.hid ((hb78.block _ (Array.getElem?_eq_some_iff.1 hB7).1).trans hB7)
      have HC8 := Lib.hid ((hb78.block _ (Array.getElem?_eq_some_iff.1 hC7).1).trans hC7)
      have Hb8 := Lib.hid (hb7.trans (hb78.mono hb7.size))
      have HS67 := Lib.hid hF67.size
      obtain ⟨_, hade, r0, r1, r2, r3', hN⟩ := hR8.cells
      injection hade with hade
      subst hade
      have s0 := (hN i' hR8.lt).1
      have hlt' := hR8.lt
      have htk := tk_eq toks i' hR8.lt
      obtain ⟨T2, hT2⟩ : ∃ T, toks[i']'hlt' = T := ⟨_, rfl⟩
      have HT2 := Lib.hid hT2
      rw [hT2] at s0 htk
      have hl2 := HL7.out
      rw [htk] at hl2
      have HL2 := Lib.hid hl2
      have HS : Hid (∀ W', Below w8.heap.size w8 W' → W'.cell? ⟨w4.heap.size, 0, none⟩ = some (.slice (some ad) toks.length c) ∧ W'.cell? ⟨w4.heap.size, 1, none⟩ = some (.int .i64 i') ∧ W'.cell? (ad.add (i' * 5)) = some (.int .u8 T2.f0)) :=
        fun W' hW => ⟨(hW.cell (World.block_lt_of_cell? w8 _ r0)).trans r0, (hW.cell (World.block_lt_of_cell? w8 _ r1)).trans r1, (hW.cell (World.block_lt_of_cell? w8 _ s0)).trans s0⟩
      have hD0 := HS.out _ ((Below.refl _ w8).drew)
      clear hR8 hX8 hF8 hO7 hA7 hB7 hC7 hb7 hb78 hR7 hF67 hF7 keep67 r0 r1 r2 r3' hN s0 hT2 htk hl2 HS hw6 r3 f3 k7 HTM HO6 HA6 HB6 HC6 HL7
      go_wp2_with fail
      refine wp_region_noPanic ?_
      go_region_held (fun W' => W'.cell? ⟨w4.heap.size, 0, none⟩ = some (.slice (some ad) toks.length c) ∧ W'.cell? ⟨w4.heap.size, 1, none⟩ = some (.int .i64 i') ∧ W'.cell? (ad.add (i' * 5)) = some (.int .u8 T2.f0))
        (exact hD0)
        (fail)
      refine NoPanic.normal ?_
      clear hD0 hw8
      by_cases c6 : T2.f0 = 6
      rotate_left
      · have k6 : (T2.f0 != 6) = true := by simp [c6]
        have hl3 := HL2.out
        rw [if_pos c6] at hl3
        injection hl3 with hl3
        subst hl3
        have hfc := fail_calls 11 (HR8.out.below ((Below.refl _ w8).drew))
        rw [HT2.out] at hfc
        have HFC := Lib.hid hfc
        clear hfc c6
        go_wp2_with fail
        go_at_call 23
        refine HFC.out.mono ?_
        rintro e w9 ⟨rfl, hb9⟩
        go_wp2
        have hb89 : Below w8.heap.size w8 w9 := ((Below.refl _ w8).drew).trans hb9
        refine Terms_panic (b0 := w.heap.size) (b1 := Wa.heap.size) (b2 := Wb.heap.size) T2.f3 11 rfl rfl rfl (by have := HZa.out; omega) (by have := HZb.out; omega)
          ((hb89.block _ (Array.getElem?_eq_some_iff.1 HA8.out).1).trans HA8.out) ((hb89.block _ (Array.getElem?_eq_some_iff.1 HB8.out).1).trans HB8.out) ((hb89.block _ (Array.getElem?_eq_some_iff.1 HC8.out).1).trans HC8.out) (fun w' hbw' => ⟨(Hb8.out.trans (hb89.mono Hb8.out.size)).trans hbw', rfl⟩)
      · have k6 : (T2.f0 != 6) = false := by simp [c6]
        have hl3 := HL2.out
        rw [if_neg (fun h => h c6)] at hl3
        by_cases hle2 : i' + 1 < toks.length
        rotate_left
        · rw [if_neg hle2] at hl3; cases hl3
        rw [if_pos hle2] at hl3
        have HL3 := Lib.hid hl3
        clear hl3 c6
        have r1 : w8.cell? ⟨w4.heap.size, 1, none⟩ = some (.int .i64 i') := Lib.cell_of_heap HR8.out.box 1
        have f1 : w8.frozen? ⟨w4.heap.size, 1, none⟩ = false := Lib.frozen_of_heap HR8.out.box 1
        obtain ⟨w10, hw10⟩ : ∃ w10, (w8.setCell ⟨w4.heap.size, 1, none⟩ (.int .i64 ((i' : Int) + 1))).drew = w10 := ⟨_, rfl⟩
        have hoth : ∀ q, q ≠ w4.heap.size → w10.heap[q]? = w8.heap[q]? := fun q hq => by rw [← hw10]; exact Below.heap_setCell _ _ _ _ hq
        have hR10 : Rd w10 w4.heap.size (some ad) c toks (i' + 1) 0 ns' (.slice Bn ns'.length cn) := by
          rw [← hw10]
          exact (HR8.out.setI (i' + 1) hle2).below ((Below.refl _ _).drew)
        have hs10 : w10.heap.size = w8.heap.size := by rw [← hw10]; simp [World.setCell]
        have hne : ∀ q, q < w4.heap.size → q ≠ w4.heap.size := fun q hq => by omega
        have lw := HLW.out
        have hA10 : Box1 w10 w.heap.size (.slice Bo acc.length co) 28 := (hoth _ (by have := HZa.out; have := HZb.out; omega)).trans HA8.out
        have hB10 : Box1 w10 Wa.heap.size (.int .i64 0) 3 := (hoth _ (by have := HZa.out; have := HZb.out; omega)).trans HB8.out
        have hC10 : Box1 w10 Wb.heap.size (.int .i64 0) 29 := (hoth _ (by have := HZa.out; have := HZb.out; omega)).trans HC8.out
        have l67 : w4.heap.size < w7.heap.size := by have := HR6.out.rbl; have := HS67.out; omega
        have hX10 := (hoth w7.heap.size (by omega)).trans HX8.out
        have hO10 := HO8.out.keep (fun q h1 _ => hoth q (by omega))
        have hF10 := Kd.F_step HF8.out (fun q hq _ => hoth q hq.1.2.1)
        have HROW10 := Lib.hid (Kd.F_step HROW8.out (fun q hq _ => hoth q (by have := hq.2; omega)))
        have hb10 : Below w.heap.size w w10 := by rw [← hw10]; exact (Hb8.out.setCell (p := ⟨w4.heap.size, 1, none⟩) hrbw _).drew
        have x0 := Lib.cell_of_heap hX10 0
        have x1 := Lib.cell_of_heap hX10 1
        have x2 := Lib.cell_of_heap hX10 2
        have x3 := Lib.cell_of_heap hX10 3
        have a0 := Lib.cell_of_heap hA10 0
        have nn : w10.cell? ⟨w4.heap.size, 3, none⟩ = some (.slice Bn ns'.length cn) := Lib.cell_of_heap hR10.box 3
        have a0' := fun o : Obj => Lib.cell?_alloc_some (W := w10) o a0
        have x0' := fun o : Obj => Lib.cell?_alloc_some (W := w10) o x0
        have x1' := fun o : Obj => Lib.cell?_alloc_some (W := w10) o x1
        have x2' := fun o : Obj => Lib.cell?_alloc_some (W := w10) o x2
        have x3' := fun o : Obj => Lib.cell?_alloc_some (W := w10) o x3
        have nn' := fun o : Obj => Lib.cell?_alloc_some (W := w10) o nn
        obtain ⟨wl2, hwl2⟩ : ∃ W', w10.alloc (.cells #[.int .u8 x.f0, .string x.f1, .int .i64 x.f2, .slice A7 x.f3.length c7, .slice Bn ns'.length cn] 39) = W' := ⟨_, rfl⟩
        have hbl2 : Below w10.heap.size w10 wl2 := by rw [← hwl2]; exact (Below.refl _ _).alloc (Nat.le_refl _) _
        have hlit : wl2.heap[w10.heap.size]? = some (.cells #[.int .u8 x.f0, .string x.f1, .int .i64 x.f2, .slice A7 x.f3.length c7, .slice Bn ns'.length cn] 39 (0, 0)) := by rw [← hwl2]; exact (MapKept.heap_alloc w10 _).1
        have hsl2 : wl2.heap.size = w10.heap.size + 1 := by rw [← hwl2]; exact World.size_alloc _ _
        obtain ⟨inner, ho10, hrep⟩ := hO10
        have hol : wl2.ownsRow (w4.heap.size + 1) 39 5 (.slice Bo acc.length co) acc.length inner := ownsRow_same ho10 (fun g hg => hbl2.block g (ownsRow_lt ho10 g hg).1)
        have HOL : Hid (wl2.drew.ownsRow (w4.heap.size + 1) 39 5 (.slice Bo acc.length co) acc.length inner) := hol
        have HLIT := Lib.hid hlit
        have hA2 := (hbl2.block _ (Array.getElem?_eq_some_iff.1 hA10).1).trans hA10
        have HA2 := Lib.hid hA2
        have aL := Lib.cell_of_heap hA2 0
        have hlast : ∀ g, Value.ownBlock (.slice Bo acc.length co) = some g → w4.heap.size + 1 ≤ g ∧ g < w10.heap.size := fun g hg => ⟨(ownsRow_lt ho10 g hg).2.1, (ownsRow_lt ho10 g hg).1⟩
        have HLAST := Lib.hid hlast
        have HR10 := Lib.hid hR10
        have HREP := Lib.hid hrep
        have HF10 := Lib.hid hF10
        have HO10 := Lib.hid ho10
        have HB10 := Lib.hid hB10
        have HC10 := Lib.hid hC10
        have HA10 := Lib.hid hA10
        have Hb10 := Lib.hid hb10
        have Hbl2 := Lib.hid hbl2
        have HSL2 := Lib.hid hsl2
        have HS10 := Lib.hid hs10
        have hz : w4.heap.size + 1 ≤ w10.heap.size := by have := hR10.rbl; omega
        have halen : acc.length ≤ 10000 := by have := HLE.out; omega
        obtain ⟨i0, hi0, hz0, hz1, hz2⟩ := info_parts readInfo
        clear hR10 hrep hF10 ho10 hB10 hC10 hA10 hb10 hbl2 hsl2 hs10 hlast hA2 hlit hol hX10 hoth hne HX8 HF8 HO8 HA8 HB8 HC8 Hb8 HR8
        go_wp2_with fail
        refine wp_region_noPanic ?_
        go_region_law (first
          | (refine step_append_own rfl _ _ 28 rfl (w4.heap.size + 1) 39 i0 _ 5 80 Tryz.underlying28 hi0 hz0 hz1 hz2 rfl (by decide) (.slice Bo acc.length co) acc.length inner rfl HOL.out ⟨w10.heap.size, 0, none⟩ 1 1 [.int .u8 x.f0, .string x.f1, .int .i64 x.f2, .slice A7 x.f3.length c7, .slice Bn ns'.length cn] rfl rfl (fun q u hq => by rw [Addr.add_lit, Nat.zero_add]; exact (Lib.cell_of_heap HLIT.out q).trans (by simpa using hq)) (by intro u hu; simp at hu; rcases hu with rfl | rfl | rfl | rfl | rfl <;> rfl) (by unfold maxLen; omega) (by omega) (by have := HSL2.out; show w4.heap.size + 1 ≤ wl2.heap.size; omega) ?_
             intro v' wA hown hgrow _ hown2
             obtain ⟨B2, c2, rfl⟩ : ∃ B2 c2, v' = .slice B2 (acc.length + 1) c2 := by
               rcases hown.2 with ⟨_, e⟩ | ⟨g2, cap2, cur2, rfl, _⟩
               · exact absurd e (Nat.succ_ne_zero _)
               · exact ⟨_, cap2, rfl⟩
             have hbA : wA.heap[w.heap.size]? = some (.cells #[.slice Bo acc.length co] 28 (0, 0)) := (hgrow.block w.heap.size (Array.getElem?_eq_some_iff.1 HA2.out).1 (fun e => by have := (HLAST.out _ e.symm).1; omega)).trans HA2.out
             have cA := Lib.cell_of_heap hbA 0
             have fA := Lib.frozen_of_heap hbA 0))
        all_goals
          refine NoPanic.normal ?_
          have hkA : ∀ q, q < w10.heap.size → some q ≠ Value.ownBlock (.slice Bo acc.length co) → wA.heap[q]? = w10.heap[q]? := fun q hq hne => (hgrow.block q (by have := HSL2.out; show q < wl2.heap.size; omega) hne).trans (Hbl2.out.block q hq)
          have hsA : w10.heap.size ≤ wA.heap.size := by have h1 := hgrow.size; have h2 := HSL2.out; have h3 : wl2.drew.heap.size = wl2.heap.size := rfl; omega
          obtain ⟨wB, hwB⟩ : ∃ W', wA.setCell ⟨w.heap.size, 0, none⟩ (.slice B2 (acc.length + 1) c2) = W' := ⟨_, rfl⟩
          have hothB : ∀ q, q ≠ w.heap.size → wB.heap[q]? = wA.heap[q]? := fun q hq => by rw [← hwB]; exact Below.heap_setCell _ _ _ _ hq
          have hkB : ∀ q, q < w10.heap.size → q ≠ w.heap.size → some q ≠ Value.ownBlock (.slice Bo acc.length co) → wB.heap[q]? = w10.heap[q]? := fun q h1 h2 h3 => (hothB q h2).trans (hkA q h1 h3)
          have hown_ne : ∀ q, q ≤ w4.heap.size → some q ≠ Value.ownBlock (.slice Bo acc.length co) := fun q hq e => by have := (HLAST.out q e.symm).1; omega
          have lw := HLW.out
          have hw10 : w4.heap.size < w10.heap.size := hz
          have za := HZa.out
          have zb := HZb.out
          have hrowB := Kd.F_step HROW10.out (fun q hq hlt => hkB q hlt (by have := hq.1; omega) (hown_ne q (by have := hq.2; omega)))
          have hRA := HR10.out.keepR (t := 39) (by decide) (Value.ownBlock (.slice Bo acc.length co)) hkA (fun g hg => ⟨by have := (HLAST.out g hg).1; omega, fun _ => (ownsRow_lt HO10.out g hg).2.2⟩)
          have hRB : Rd wB w4.heap.size (some ad) c toks (i' + 1) 0 ns' (.slice Bn ns'.length cn) := by
            refine ⟨(hothB w4.heap.size (by omega)).trans hRA.box, Kd.F_mono hrowB (fun q hq => hq.2), ownsRow_same hRA.names (fun g hg => hothB g ?_), hRA.lt, hRA.few, hRA.deep64, hRA.names32⟩
            have := (ownsRow_lt hRA.names g hg).2.1
            omega
          have hAB : Box1 wB w.heap.size (.slice B2 (acc.length + 1) c2) 28 := by rw [← hwB]; exact heap_setCell_same hbA 0 _
          have hBB : Box1 wB Wa.heap.size (.int .i64 0) 3 := (hkB _ (by omega) (by omega) (hown_ne _ (by omega))).trans HB10.out
          have hCB : Box1 wB Wb.heap.size (.int .i64 0) 29 := (hkB _ (by omega) (by omega) (hown_ne _ (by omega))).trans HC10.out
          have hbA' : Below w.heap.size w wA := ⟨hgrow.os.trans (Hbl2.out.os.trans Hb10.out.os), hgrow.tape.trans (Hbl2.out.tape.trans Hb10.out.tape), hgrow.output.trans (Hbl2.out.output.trans Hb10.out.output), Nat.le_trans Hb10.out.size hsA, fun q hq => (hkA q (by omega) (hown_ne q (by omega))).trans (Hb10.out.block q hq)⟩
          have hbB : Below w.heap.size w wB := by rw [← hwB]; exact hbA'.setCell (p := ⟨w.heap.size, 0, none⟩) (Nat.le_refl _) _
          have hO : OutQ wB (w4.heap.size + 1) (.slice B2 (acc.length + 1) c2) (acc ++ [x]) := by
            have hnew : ∀ q, q < w10.heap.size → some q ≠ Value.ownBlock (.slice Bo acc.length co) → some q ≠ Value.ownBlock (.slice B2 (acc.length + 1) c2) := fun q hq hne e => by
              rcases hown2 with e2 | e2
              · rw [e2] at e; exact hne e
              · rw [e2] at e
                injection e with e
                have h2 := HSL2.out
                have h3 : wl2.drew.heap.size = wl2.heap.size := rfl
                omega
            refine ⟨inner ++ [.int .u8 x.f0, .string x.f1, .int .i64 x.f2, .slice A7 x.f3.length c7, .slice Bn ns'.length cn], ?_, ?_⟩
            · rw [List.length_append, List.length_singleton]
              exact ownsRow_same hown (fun g hg => hothB g (by have := (ownsRow_lt hown g hg).2.1; omega))
            · refine Reps.snoc (HREP.out.imp_ (fun y cs hy => ?_)) ⟨A7, c7, _, rfl, hc7, ?_⟩ rfl
              · obtain ⟨Ay, cy, nvy, e, hcy, hFy⟩ := hy
                exact ⟨Ay, cy, nvy, e, hcy, Kd.F_mono (Kd.F_step (Kd.F_bound hFy) (fun q hq hl => hkB q hl (by have := hq.1.1; omega) hq.1.2)) (fun q hq => ⟨hq.1.1, hnew q hq.2 hq.1.2⟩)⟩
              · have h6 := HR6.out.rbl
                have h67 := HS67.out
                have hs := HS10.out
                have h78 : w7.heap.size ≤ w8.heap.size := by rw [← HW8.out, World.size_alloc]; omega
                have hne6 : ∀ q, w6.heap.size ≤ q → some q ≠ Value.ownBlock (.slice Bo acc.length co) := fun q hq e => by have := HLT6.out q e.symm; omega
                refine Kd.F_mono (Kd.F_step HF10.out (fun q hq hl => hkB q hl (by have := hq.1.1; omega) (hne6 q hq.1.1))) (fun q hq => ⟨by have := hq.1.1; omega, hnew q (by have := hq.2; omega) (hne6 q hq.1.1)⟩)
          have HRB := Lib.hid hRB
          have HOB := Lib.hid hO
          have HAB := Lib.hid hAB
          have HBB := Lib.hid hBB
          have HCB := Lib.hid hCB
          have HbB := Lib.hid hbB
          have HrB := Lib.hid hrowB
          clear hkA hothB hkB hown_ne hrowB hRA hRB hAB hBB hCB hbA' hbB hO hgrow hown hown2 HREP HROW10
          go_wp2
          rw [hwB]
          refine ⟨⟨k, i' + 1, acc ++ [x], _, _, ns', HRB.out, HOB.out, HAB.out, HBB.out, HCB.out, HbB.out, ⟨HL3.out, ?_⟩, HrB.out⟩, ?_⟩
          · rw [List.length_append, List.length_singleton]
            have := HLE.out
            omega
          · have c9 : wB.cell? ⟨w4.heap.size, 1, none⟩ = some (.int .i64 ((i' + 1 : Nat) : Int)) := Lib.cell_of_heap HRB.out.box 1
            have := HLE.out
            rw [c1r.out, c9]
            simp only [Option.getD_some, intOf]
            omega
end Go.Proofs.YtecjdjdfikcliaaGreatDoor.Pr
end
