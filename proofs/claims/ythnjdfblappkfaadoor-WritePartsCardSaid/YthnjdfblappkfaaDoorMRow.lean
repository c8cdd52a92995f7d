/- Several small texts of this claim in one. -/
import Derived.Test.YthnjdfblappkfaaDoorRows
import Derived.Test.YthnjdfblappkfaaDoorLaid
import Derived.WalkKit
import Derived.ProofKit
import Derived.OpenShut
import Derived.ShutString
import Derived.ChangeOld
import Derived.Below
import Derived.SizedLaws
import Derived.LaidMore
import Derived.LaidLaws
import Derived.Stop.Joined
import Derived.Stop.LaidErr
import Derived.Shelf.Vars
import Derived.Test.YthnjdfblappkfaaDoorWLaid
import Derived.Test.YthnjdfblappkfaaDoorShelfW
import Derived.Lib.LaidU8T
import Derived.Carry
import Derived.Test.YthnjdfblappkfaaDoorMBound
import Derived.Test.YthnjdfblappkfaaDoorMTerm
import Derived.Lib.SmallJoins
import Derived.DataReads
section
/-!
  What the Lex rows give: the wrap with laid cells and the world's shape; the laid cells as the lexer's premise.
-/
namespace Go.Proofs.YthnjdfblappkfaaDoor
open Go.ChangeShapes Go.WideShapes Go.ChangeAt Go.RowKit

section
variable {H : Type} {enc : TypeId × Value → H}
theorem returnsInHanded_of_laid_shaped {a : Assume} {C : Checked} {os : Os} {f : FuncId} {fn : Func} {s : ChangeSpec} {conds : List PathCond} {apart fresh handsOn again : Bool} {X : World → Array Value → Prop}
    (hX : ∀ (w w' : World) (args : Array Value), w.heap = w'.heap → X w args → X w' args)
    (own : ownKnob C.prog.godebug = none) (started : os.Started) (noInit : C.prog.inits.idxOf? f = none) (hfn : C.prog.funcs[f]? = some fn)
    (witness : ∃ (w : World) (tape : Tape) (i : Input), w.os = os ∧ (w.forCall tape i).Shaped C.prog ∧ i.vars = [] ∧ Input.okWide C.prog (w.forCall tape i) .any w.heap.size f i ∧
      ((s.pre enc C.prog fn conds apart (w.forCall tape i).memory i.args ∧ X (w.forCall tape i).memory i.args) ∧ sizedMet enc C.prog fn (OpenSpec.ofChange s) apart (w.forCall tape i).memory i.args) ∧ a.holds C.prog (lone (Frame.enter C.prog f i.args .normal) [] (w.forCall tape i)))
    (contract : ∀ (W : World) (base : Nat) (args : Array Value) (ds gs : List (DataW H)) (before : List MemPlace),
      (∀ (j : Nat) t v, fn.params[j]? = some t → args[j]? = some v → Value.okWide C.prog W .any base t v) →
      DataW.Whole enc C.prog fn.params.toList s.vars apart W args.toList ds gs before →
      (DataW.weightsEach C.prog (fn.params.toList ++ s.plain.varTypes C.prog) (ds ++ gs)).all (· ≤ reachBytes) = true → X W args → W.ShapedOpen C.prog →
      Calls C.prog f args W fun e W' => ∃ v, e = .returned v ∧ s.post enc C.prog fn apart fresh handsOn again W args v W') :
    ReturnsInHanded a C os f .any (fun w args => (s.pre enc C.prog fn conds apart w args ∧ X w args) ∧ sizedMet enc C.prog fn (OpenSpec.ofChange s) apart w args) (s.post enc C.prog fn apart fresh handsOn again) := by
  refine returnsInHanded_of_calls own started noInit witness ?_
  intro w tape i _ hsh _ hok hpre _
  obtain ⟨_, _, _, fn', hfn', _, _, _, _, hval⟩ := hok
  have e : fn' = fn := Option.some.inj (hfn'.symm.trans hfn)
  subst e
  obtain ⟨⟨⟨ds, gs, before, hw, _⟩, hx⟩, hz⟩ := hpre
  have hw' := DataW.Whole.of_heap (w' := w.forCall tape i) (by rfl) hw
  refine (contract (w.forCall tape i) w.heap.size i.args ds gs before hval hw' (hz.weights hw) (hX _ _ _ (by rfl) hx) hsh).mono fun e W' ⟨v, he, hp⟩ => ?_
  subst he
  exact ChangeSpec.post_blind hp
end

theorem own : ownKnob Tryd.prog.godebug = none := by kernel_rfl
theorem star_errorString : "*" ++ "errors.errorString" = "*errors.errorString" := by decide
theorem row_errorString (u : TypeId) (h : Tryd.prog.typeName? 3 u = some "*errors.errorString") : u = 213 :=
  typeName_ptr_named (nm := "errors.errorString") (by rw [star_errorString]; kernel_rfl) (by kernel_rfl) (by decide) u (by rw [star_errorString]; exact h)

def laidLex {H : Type} : List (String × DataW H) := [("math/bits.deBruijn32tab", Rows.laid_math_bits_deBruijn32tab), ("math/bits.deBruijn64tab", Rows.laid_math_bits_deBruijn64tab), ("internal/strconv.uint64pow10", Rows.laid_internal_strconv_uint64pow10), ("strconv.ErrRange", Rows.laid_strconv_ErrRange), ("strconv.ErrSyntax", Rows.laid_strconv_ErrSyntax)]

/-- The door's own heap meets the condition. -/
theorem door_met (os : Os) (args : Array Value) : laidMetH Tryd.prog laidLex ((World.doorLaid Tryd.prog 400 os).forCall (fun _ _ => 0) ⟨#[], args, []⟩).memory :=
  laidMetH_of_parts3 (fuel := 8) (laidMet_of_run' 8 (by kernel_rfl) (by kernel_rfl)) (by kernel_rfl) (by kernel_rfl)

theorem laidE_of {W : World} (h : laidMetH Tryd.prog laidLex W) (hs : W.ShapedOpen Tryd.prog) : LaidE W := by
  rw [MakeChecks.laidMetH_plain _ _ _ (by kernel_rfl)] at h
  have h3 := h.tail.tail.tail
  obtain ⟨a1, s1, hv1, -, -, -⟩ := laid_sentinel (g := 7) (te := 215) h3 (by kernel_rfl) (by kernel_rfl) Tryd.underlying111 row_errorString Tryd.underlying213 Tryd.underlying215 rfl rfl Tryd.underlying9 (by kernel_rfl) (by kernel_rfl)
  obtain ⟨a0, s0, hv0, -, -, -⟩ := laid_sentinel (g := 6) (te := 215) h3.tail (by kernel_rfl) (by kernel_rfl) Tryd.underlying111 row_errorString Tryd.underlying213 Tryd.underlying215 rfl rfl Tryd.underlying9 (by kernel_rfl) (by kernel_rfl)
  exact ⟨cell_of_shapedOpen_int (g := 1) (t := 3) (zero := #[.int .i64 0]) hs (of_decide_eq_true (by kernel_rfl)) (by kernel_rfl) rfl (by kernel_rfl) (by kernel_rfl) Tryd.underlying3, ⟨_, _, hv0⟩, ⟨_, _, hv1⟩⟩

end Go.Proofs.YthnjdfblappkfaaDoor
end
section
/-!
  What the writer's rows give: the laid tables as the writer's premise.
-/
namespace Go.Proofs.YthnjdfblappkfaaDoor
open Go.RowKit

def laidWrite : List (String × DataW Unit) := [("math/bits.deBruijn32tab", Rows.laid_math_bits_deBruijn32tab), ("math/bits.deBruijn64tab", Rows.laid_math_bits_deBruijn64tab), ("internal/strconv.uint64pow10", Rows.laid_internal_strconv_uint64pow10), ("unicode/utf8.acceptRanges", Rows.laid_unicode_utf8_acceptRanges), ("unicode/utf8.first", Rows.laid_unicode_utf8_first)]

theorem first_eq : Rows.laid_unicode_utf8_first = Lib.firstData := by kernel_rfl
theorem accept_eq : Rows.laid_unicode_utf8_acceptRanges = Lib.acceptData := by kernel_rfl
theorem pow_eq : (Rows.laid_internal_strconv_uint64pow10 : DataW Unit) = Lib.tabData .u64 Lib.pow10Tab := by kernel_rfl
theorem u8types : U8Types Tryd.prog Tryd.lays271_ren := ⟨by kernel_rfl, by kernel_rfl, by kernel_rfl, by kernel_rfl⟩
theorem u8extra : U8Extra Tryd.prog Tryd.lays271_ren := ⟨by kernel_rfl, by kernel_rfl, by kernel_rfl, by kernel_rfl, by kernel_rfl, by kernel_rfl, by kernel_rfl⟩

/-- The door's world, with the table that the dump names alone. -/
noncomputable def doorW (os : Os) : World :=
  let w0 := World.doorLaid Tryd.prog 400 os
  { w0 with heap := w0.heap.modify 4 fun
    | .cells _ t frozen => .cells (Lib.firstTab.map fun z => Value.int .u8 z).toArray t frozen
    | o => o }
/-- It meets the condition. -/
theorem door_metW (os : Os) (args : Array Value) : laidMetH Tryd.prog laidWrite ((doorW os).forCall (fun _ _ => 0) ⟨#[], args, []⟩).memory :=
  laidMetH_of_parts3 (fuel := 8) (laidMet_of_run' 8 (by kernel_rfl) (by kernel_rfl)) (by kernel_rfl) (by kernel_rfl)

theorem laidOut : laidOutB Tryd.prog = true := by kernel_rfl
theorem pow_type : (Tryd.prog.globals[3]?).map (·.type) = some 175 := by kernel_rfl
theorem pow_arr : Tryd.prog.underlying 175 = some (.array 20 123) := by kernel_rfl
theorem pow_elem : Tryd.prog.underlying 123 = some (.int .u64) := by kernel_rfl
theorem laidW_of {W : World} (h : laidMetH Tryd.prog laidWrite W) : LaidW W := by
  rw [MakeChecks.laidMetH_plain _ _ _ (by kernel_rfl)] at h
  refine ⟨?_, ?_⟩
  · exact utf8Tabs_of_readsT (ρ := Tryd.lays271_ren) u8types u8extra (first_eq ▸ Lib.laidMet.reads h (.tail _ (.tail _ (.tail _ (.tail _ (.head _)))))) (accept_eq ▸ Lib.laidMet.reads h (.tail _ (.tail _ (.tail _ (.head _)))))
  · obtain ⟨g, t, cs, fuel, p, hg, hty, hvar, hd⟩ := Lib.laidMet.reads h (.tail _ (.tail _ (.head _)))
    rw [pow_eq] at hd
    obtain rfl := Option.some.inj (global_pow.symm.trans hg)
    obtain rfl := Option.some.inj (pow_type.symm.trans hty)
    show W.var? _ _ = _
    rw [hvar, ← Lib.cells_of_tab pow_arr pow_elem (by kernel_rfl) (by kernel_rfl) hd]
end Go.Proofs.YthnjdfblappkfaaDoor
end
section
/-
  A tree of terms that came in, as it is read: its fields, its numbers' and its names' bounds.
-/
namespace Go.Proofs.YthnjdfblappkfaaDoor
open Go.ChangeShapes Go.WideShapes Go.ChangeAt
open Go.RowKit Go.Proofs.YthnjdfblappkfaaDoorW.PrintWords Go.Proofs.YthnjdfblappkfaaDoorW.PrintLast Go.Proofs.YthnjdfblappkfaaDoorW.PrintMore Go.Proofs.YthnjdfblappkfaaDoor.P

theorem list_four {α : Type} (l : List α) (h : l.length = 4) : ∃ a b c d, l = [a, b, c, d] := by
  match l, h with
  | [a, b, c, d], _ => exact ⟨a, b, c, d, rfl⟩
theorem list_of {α : Type} (Q : Nat → α → Prop) : ∀ n, (∀ i, i < n → ∃ x, Q i x) → ∃ xs : List α, xs.length = n ∧ ∀ i x, xs[i]? = some x → Q i x
  | 0, _ => ⟨[], rfl, fun i x h => by simp at h⟩
  | n + 1, h => by
    obtain ⟨xs, hl, hx⟩ := list_of Q n (fun i hi => h i (by omega))
    obtain ⟨y, hy⟩ := h n (by omega)
    refine ⟨xs ++ [y], by simp [hl], fun i x hi => ?_⟩
    rcases Nat.lt_or_ge i xs.length with hlt | hge
    · rw [List.getElem?_append_left hlt] at hi
      exact hx i x hi
    · rw [List.getElem?_append_right hge] at hi
      cases hk : i - xs.length with
      | zero =>
        rw [hk] at hi
        simp at hi
        subst hi
        rw [show i = n by omega]
        exact hy
      | succ k =>
        rw [hk] at hi
        simp at hi

section
variable {H : Type} {enc : TypeId × Value → H} {w : World} {base : Nat} {spare : Nat → Bool} {held : Bool}

/-- What is read of a term's four cells. -/
def TreeIs (w : World) (R : Nat) (cs : List Value) : Prop :=
  ∃ (x : S24) (A : Option Addr) (c : Nat), cs = [.int .u8 x.f0, .string x.f1, .int .i64 x.f2, .slice A x.f3.length c] ∧ x.f3.length ≤ c ∧ Kd.C k24 w A x.f3.length x.f3 ∧ RefW.numT x = true ∧ RefW.nmT x ≤ R
/-- What is read of a row of terms. -/
def RowIs (w : World) (R : Nat) (cs : List Value) : Prop :=
  ∃ (l : List S24) (A : Option Addr) (c : Nat), cs = [.slice A l.length c] ∧ l.length ≤ c ∧ Kd.C k24 w A l.length l ∧ RefW.numL l = true ∧ RefW.nmL l ≤ R

theorem weights_each_mem {P : Program} {e : TypeId} {n : Nat} : ∀ {l : List (DataW H)} {i : Nat} {d : DataW H}, l[i]? = some d → n ∈ d.weights P e → n ∈ DataW.weightsAll P e l
  | [], i, d, h, _ => by simp at h
  | y :: l, 0, d, h, hn => by
    simp at h
    subst h
    simp only [DataW.weightsAll]
    exact List.mem_append_left _ hn
  | y :: l, i + 1, d, h, hn => by
    simp only [DataW.weightsAll]
    exact List.mem_append_right _ (weights_each_mem (by simpa using h) hn)

theorem cells24 : Tryd.prog.cellsOf 24 = 4 := by kernel_rfl

theorem cells_u8 : Tryd.prog.cellsOf 5 = 1 := by kernel_rfl
theorem cells_string : Tryd.prog.cellsOf 9 = 1 := by kernel_rfl
theorem cells_int : Tryd.prog.cellsOf 2 = 1 := by kernel_rfl
theorem cells_row : Tryd.prog.cellsOf 22 = 1 := by kernel_rfl

theorem row_open (fuel R : Nat) (ih : ∀ n, n < fuel → ∀ cs x, DataW.trod enc Tryd.prog w base spare held n 24 cs = some x → (∀ k ∈ x.1.weights Tryd.prog 24, k ≤ R) → TreeIs w R cs)
    (cs : List Value) (x : DataW H × List MemPlace) (h : DataW.trod enc Tryd.prog w base spare held fuel 22 cs = some x) (hw : ∀ k ∈ x.1.weights Tryd.prog 22, k ≤ R) : RowIs w R cs := by
  rcases DataW.trod_slice Tryd.underlying22 h with ⟨rfl, rfl⟩ | ⟨a, len, cap, elems, rest, n, hn, rfl, rfl, hb, hl, hm, hlen, hel, _, _⟩
  · exact ⟨[], none, 0, rfl, Nat.le_refl _, C_nil w, rfl, by simp [RefW.nmL]⟩
  · have hw' : ∀ k ∈ DataW.weightsAll Tryd.prog 24 (elems.map (·.1)), k ≤ R := fun k hk => hw k (by
      simp only [DataW.weights, Tryd.underlying22]
      exact List.mem_cons_of_mem _ (List.mem_append_left _ hk))
    have key : ∀ i, i < len → ∃ x : S24, (∃ A c, (∀ j u, [Value.int .u8 x.f0, .string x.f1, .int .i64 x.f2, .slice A x.f3.length c][j]? = some u → w.cell? (a.add (i * 4 + j)) = some u) ∧ x.f3.length ≤ c ∧ Kd.C k24 w A x.f3.length x.f3) ∧ RefW.numT x = true ∧ RefW.nmT x ≤ R := by
      intro i hi
      have h1 := hel i hi
      rw [cells24, List.getElem?_eq_getElem (show i < elems.length by omega)] at h1
      obtain ⟨cs', h2, h3⟩ := Option.bind_eq_some_iff.1 h1
      obtain ⟨x, A, c, rfl, hc, hC, hnum, hnm⟩ := ih n (by omega) cs' _ h3 (fun k hk => hw' k (weights_each_mem (i := i) (by rw [List.getElem?_map, List.getElem?_eq_getElem (show i < elems.length by omega)]; rfl) hk))
      obtain ⟨_, _, h4⟩ := World.cells?_some h2
      refine ⟨x, ⟨A, c, fun j u hj => ?_, hc, hC⟩, hnum, hnm⟩
      have hj4 : j < 4 := by
        rcases Nat.lt_or_ge j 4 with h | h
        · exact h
        · rw [List.getElem?_eq_none (by simpa using h)] at hj
          cases hj
      have := h4 j hj4
      rw [← add_add, this]
      exact hj
    obtain ⟨l, hll, hx⟩ := list_of _ len key
    subst hll
    refine ⟨l, some a, cap, rfl, hl, ⟨rfl, by unfold maxLen at hm; omega, fun _ => ⟨a, rfl, fun j p hj => ?_⟩⟩, ?_, ?_⟩
    · obtain ⟨⟨A, c, hcell, hc, hC⟩, _, _⟩ := hx j p hj
      exact ⟨[.int .u8 p.f0, .string p.f1, .int .i64 p.f2, .slice A p.f3.length c], rfl, k24_mk w p hc hC, hcell⟩
    · rw [RefW.numL_all, List.all_eq_true]
      intro y hy
      obtain ⟨j, hj⟩ := List.mem_iff_getElem?.1 hy
      exact (hx j y hj).2.1
    · rw [RefW.nmL_le]
      intro y hy
      obtain ⟨j, hj⟩ := List.mem_iff_getElem?.1 hy
      exact (hx j y hj).2.2

theorem tree_open (R : Nat) : ∀ (fuel : Nat) (cs : List Value) (x : DataW H × List MemPlace), DataW.trod enc Tryd.prog w base spare held fuel 24 cs = some x → (∀ k ∈ x.1.weights Tryd.prog 24, k ≤ R) → TreeIs w R cs := by
  intro fuel
  induction fuel using Nat.strongRecOn with
  | _ fuel ih =>
    intro cs x h hw
    obtain ⟨xs, n, hn, rfl, hl, hlen, hf⟩ := DataW.trod_struct Tryd.underlying24 h
    have hl4 : cs.length = 4 := hl.trans cells24
    obtain ⟨c0, c1, c2, c3, rfl⟩ := list_four cs hl4
    obtain ⟨y0, y1, y2, y3, rfl⟩ := list_four xs hlen
    have h0 : DataW.trod enc Tryd.prog w base spare held n 5 (List.take (Tryd.prog.cellsOf 5) (List.drop 0 [c0, c1, c2, c3])) = some y0 := hf 0 _ rfl
    have h1 : DataW.trod enc Tryd.prog w base spare held n 9 (List.take (Tryd.prog.cellsOf 9) (List.drop 1 [c0, c1, c2, c3])) = some y1 := hf 1 _ rfl
    have h2 : DataW.trod enc Tryd.prog w base spare held n 2 (List.take (Tryd.prog.cellsOf 2) (List.drop 2 [c0, c1, c2, c3])) = some y2 := hf 2 _ rfl
    have h3 : DataW.trod enc Tryd.prog w base spare held n 22 (List.take (Tryd.prog.cellsOf 22) (List.drop 3 [c0, c1, c2, c3])) = some y3 := hf 3 _ rfl
    rw [cells_u8] at h0
    rw [cells_string] at h1
    rw [cells_int] at h2
    rw [cells_row] at h3
    have h0 : DataW.trod enc Tryd.prog w base spare held n 5 [c0] = some y0 := h0
    have h1 : DataW.trod enc Tryd.prog w base spare held n 9 [c1] = some y1 := h1
    have h2 : DataW.trod enc Tryd.prog w base spare held n 2 [c2] = some y2 := h2
    have h3 : DataW.trod enc Tryd.prog w base spare held n 22 [c3] = some y3 := h3
    have hw' : ∀ k ∈ DataW.weightsEach Tryd.prog [5, 9, 2, 22] [y0.1, y1.1, y2.1, y3.1], k ≤ R := fun k hk => hw k (by
      simp only [DataW.weights, Tryd.underlying24]
      exact hk)
    simp only [DataW.weightsEach, List.mem_append] at hw'
    obtain ⟨a0, e0, rfl, _⟩ := DataW.trod_int Tryd.underlying5 h0
    obtain ⟨a1, e1, rfl, _⟩ := DataW.trod_string Tryd.underlying9 h1
    obtain ⟨a2, e2, rfl, hwf⟩ := DataW.trod_int Tryd.underlying2 h2
    obtain ⟨l, A, c, e3, hc, hC, hnum, hnm⟩ := row_open n R (fun m hm cs x => ih m (by omega) cs x) [c3] y3 h3 (fun k hk => hw' k (.inr (.inr (.inr (.inl hk)))))
    injection e0 with e0 _
    injection e1 with e1 _
    injection e2 with e2 _
    injection e3 with e3 _
    subst e0 e1 e2 e3
    refine ⟨⟨a0, a1, a2, l⟩, A, c, rfl, hc, hC, ?_, ?_⟩
    · obtain ⟨b0, b1⟩ := bounds_i64 hwf
      rw [RefW.numT_eq, Bool.and_eq_true, Bool.and_eq_true, decide_eq_true_iff, decide_eq_true_iff]
      exact ⟨⟨b0, b1⟩, hnum⟩
    · rw [RefW.nmT_eq]
      refine Nat.max_le.2 ⟨?_, hnm⟩
      have := hw' a1.size (.inr (.inl (by simp [DataW.weights])))
      exact this

set_option maxRecDepth 100000 in
/-- A term that came in, as an argument. -/
theorem open_term {r : Reach} {b0 R : Nat} {v : Value} {d : DataW H} {p : List MemPlace} (hv : Value.okWide Tryd.prog w r b0 24 v) (h : DataW.Trod enc Tryd.prog w base spare held 24 v d p)
    (hw : ∀ k ∈ d.weights Tryd.prog 24, k ≤ R) : ∃ x : S24, TermV w x v ∧ RefW.numT x = true ∧ RefW.nmT x ≤ R := by
  obtain ⟨c0, c1, c2, c3, y0, y1, y2, y3, n, rfl, _, _, h0, h1, h2, h3⟩ := Go.Joins.open_agg4 Tryd.underlying24 (by kernel_rfl) cells24 hv h
  have h0 : DataW.trod enc Tryd.prog w base spare held n 5 [c0] = some y0 := h0
  have h1 : DataW.trod enc Tryd.prog w base spare held n 9 [c1] = some y1 := h1
  have h2 : DataW.trod enc Tryd.prog w base spare held n 2 [c2] = some y2 := h2
  have h3 : DataW.trod enc Tryd.prog w base spare held n 22 [c3] = some y3 := h3
  obtain ⟨a0, e0, _, _⟩ := DataW.trod_int Tryd.underlying5 h0
  obtain ⟨a1, e1, _, _⟩ := DataW.trod_string Tryd.underlying9 h1
  obtain ⟨a2, e2, _, _⟩ := DataW.trod_int Tryd.underlying2 h2
  injection e0 with e0 _
  injection e1 with e1 _
  injection e2 with e2 _
  subst e0 e1 e2
  obtain ⟨a, m, k, rfl⟩ : ∃ a m k, c3 = .slice a m k := by
    rcases DataW.trod_slice Tryd.underlying22 h3 with ⟨e3, _⟩ | ⟨a, m, k, _, _, _, _, e3, _⟩
    · injection e3 with e3 _
      exact ⟨_, _, _, e3⟩
    · injection e3 with e3 _
      exact ⟨_, _, _, e3⟩
  obtain ⟨fuel, hf⟩ := h
  obtain ⟨x, A, c, he, hc, hC, hnum, hnm⟩ := tree_open R fuel _ _ hf hw
  have he : [Value.int .u8 a0, .string a1, .int .i64 a2, .slice a m k] = [.int .u8 x.f0, .string x.f1, .int .i64 x.f2, .slice A x.f3.length c] := he
  refine ⟨x, ⟨A, c, ?_, hc, hC⟩, hnum, hnm⟩
  rw [show (#[Value.int .u8 a0, .string a1, .int .i64 a2, .slice a m k] : Array Value) = [Value.int .u8 a0, .string a1, .int .i64 a2, .slice a m k].toArray from rfl, he]

set_option maxRecDepth 100000 in
/-- A row of terms that came in, as an argument. -/
theorem open_terms {r : Reach} {b0 R : Nat} {v : Value} {d : DataW H} {p : List MemPlace} (hv : Value.okWide Tryd.prog w r b0 22 v) (h : DataW.Trod enc Tryd.prog w base spare held 22 v d p)
    (hw : ∀ k ∈ d.weights Tryd.prog 22, k ≤ R) : ∃ (l : List S24) (A : Option Addr) (c : Nat), v = .slice A l.length c ∧ l.length ≤ c ∧ Kd.C k24 w A l.length l ∧ RefW.numL l = true ∧ RefW.nmL l ≤ R := by
  obtain ⟨a, m, k, rfl⟩ := okWide_slice Tryd.underlying22 hv
  obtain ⟨fuel, hf⟩ := h
  obtain ⟨l, A, c, he, hc, hC, hnum, hnm⟩ := row_open fuel R (fun n _ cs x => tree_open R n cs x) _ _ hf hw
  have he : [Value.slice a m k] = [.slice A l.length c] := he
  injection he with he _
  exact ⟨l, A, c, he, hc, hC, hnum, hnm⟩
end
end Go.Proofs.YthnjdfblappkfaaDoor
end
