/- WriteClauses: for every clause that can be read as data, the law returns true, and its inputs read as they did; the listed tables of Go's library read as listed. -/
import Derived.Test.YthnjdfblappkfaaDoorRowKitW
import Derived.Test.YthnjdfblappkfaaDoorRowTree
import Derived.Test.YthnjdfblappkfaaDoorWClauses
import Derived.Test.YthnjdfblappkfaaDoorCards
import Derived.Test.YthnjdfblappkfaaDoorTie
import Derived.SevenTiedAt
import Derived.Carry
/-!
  WriteClauses: the row and its tied card.
-/
namespace Go.Proofs.YthnjdfblappkfaaDoor.WriteClausesRow
open Go.ChangeShapes Go.WideShapes Go.ChangeAt Go.RowKit
open Go.ChangeMaps (open_string shut_string)

theorem cells35 : Tryd.prog.cellsOf 35 = 6 := by kernel_rfl
theorem bytes24 : Tryd.prog.bytesOf 24 = 56 := by kernel_rfl
theorem cells_int_ : Tryd.prog.cellsOf 3 = 1 := by kernel_rfl
theorem array6 {a : Array Value} (h : a.size = 6) : ∃ c0 c1 c2 c3 c4 c5, a = #[c0, c1, c2, c3, c4, c5] := by
  obtain ⟨l⟩ := a
  match l, h with
  | [c0, c1, c2, c3, c4, c5], _ => exact ⟨c0, c1, c2, c3, c4, c5, rfl⟩
theorem list3 {α : Type} {l : List α} (h : l.length = 3) : ∃ a b c, l = [a, b, c] := by
  match l, h with
  | [a, b, c], _ => exact ⟨a, b, c, rfl⟩

section
open Go.Proofs.YthnjdfblappkfaaDoorW.PrintWords Go.Proofs.YthnjdfblappkfaaDoorW.PrintLast Go.Proofs.YthnjdfblappkfaaDoorW.PrintMore Go.Proofs.YthnjdfblappkfaaDoor.P
variable {H : Type} {enc : TypeId × Value → H} {w : World} {base : Nat} {spare : Nat → Bool} {held : Bool}
/-- A row's bytes are within reach. -/
theorem row_len {fuel R n c : Nat} {A : Option Addr} {x : DataW H × List MemPlace} (h : DataW.trod enc Tryd.prog w base spare held fuel 22 [.slice A n c] = some x) (hw : ∀ k ∈ x.1.weights Tryd.prog 22, k ≤ R) : n * 56 ≤ R := by
  rcases DataW.trod_slice Tryd.underlying22 h with ⟨e, _⟩ | ⟨a, len, cap, elems, rest, n', hn, e, rfl, hb, hl, hm, hlen, hel, _, _⟩
  · injection e with e _
    injection e with _ e _
    subst e
    rw [Nat.zero_mul]
    exact Nat.zero_le _
  · injection e with e _
    injection e with _ e _
    subst e
    have := hw (((elems.map (·.1)).length + (rest.map (·.1)).length) * Tryd.prog.bytesOf 24) (by simp [DataW.weights, Tryd.underlying22])
    rw [bytes24, List.length_map, List.length_map, hlen] at this
    exact Nat.le_trans (Nat.mul_le_mul_right _ (Nat.le_add_right _ _)) this

set_option maxRecDepth 100000 in
/-- A clause that came in, as an argument. -/
theorem open_clause {r : Reach} {b0 R : Nat} {v : Value} {d : DataW H} {p : List MemPlace} (hv : Value.okWide Tryd.prog w r b0 35 v) (h : DataW.Trod enc Tryd.prog w base spare held 35 v d p)
    (hw : ∀ k ∈ d.weights Tryd.prog 35, k ≤ R) : ∃ (hd : S24) (bd : List S24) (n : Int) (A B : Option Addr) (c e : Nat),
      v = .agg #[.int .u8 hd.f0, .string hd.f1, .int .i64 hd.f2, .slice A hd.f3.length c, .slice B bd.length e, .int .i64 n] ∧ hd.f3.length ≤ c ∧ Kd.C k24 w A hd.f3.length hd.f3 ∧ Kd.C k24 w B bd.length bd ∧
      RefW.numT hd = true ∧ RefW.numL bd = true ∧ RefW.nmL ([hd] ++ bd) ≤ R ∧ bd.length * 56 ≤ R := by
  obtain ⟨cs, rfl, hsz⟩ := okWide_struct Tryd.underlying35 hv
  obtain ⟨c0, c1, c2, c3, c4, c5, rfl⟩ := array6 (hsz.trans cells35)
  obtain ⟨fuel, hf⟩ := h
  obtain ⟨xs, n, rfl, hx, hl, hlen, hfs⟩ := DataW.trod_struct Tryd.underlying35 hf
  obtain ⟨y0, y1, y2, rfl⟩ := list3 hlen
  have h0 : DataW.trod enc Tryd.prog w base spare held n 24 (List.take (Tryd.prog.cellsOf 24) (List.drop 0 [c0, c1, c2, c3, c4, c5])) = some y0 := hfs 0 _ rfl
  have h1 : DataW.trod enc Tryd.prog w base spare held n 22 (List.take (Tryd.prog.cellsOf 22) (List.drop 4 [c0, c1, c2, c3, c4, c5])) = some y1 := hfs 1 _ rfl
  have h2 : DataW.trod enc Tryd.prog w base spare held n 3 (List.take (Tryd.prog.cellsOf 3) (List.drop 5 [c0, c1, c2, c3, c4, c5])) = some y2 := hfs 2 _ rfl
  rw [cells24] at h0
  rw [cells_row] at h1
  rw [cells_int_] at h2
  have h0 : DataW.trod enc Tryd.prog w base spare held n 24 [c0, c1, c2, c3] = some y0 := h0
  have h1 : DataW.trod enc Tryd.prog w base spare held n 22 [c4] = some y1 := h1
  have h2 : DataW.trod enc Tryd.prog w base spare held n 3 [c5] = some y2 := h2
  have hd : d = .agg [y0.1, y1.1, y2.1] := congrArg Prod.fst hx
  have hw' : ∀ k ∈ DataW.weightsEach Tryd.prog [24, 22, 3] [y0.1, y1.1, y2.1], k ≤ R := fun k hk => hw k (by
    rw [hd]
    simp only [DataW.weights, Tryd.underlying35]
    exact hk)
  simp only [DataW.weightsEach, List.mem_append] at hw'
  obtain ⟨x, A, c, he, hc, hC, hnum, hnm⟩ := tree_open R n _ _ h0 (fun k hk => hw' k (.inl hk))
  have w1 : ∀ k ∈ y1.1.weights Tryd.prog 22, k ≤ R := fun k hk => hw' k (.inr (.inl hk))
  obtain ⟨l, B, e, he1, hce, hCl, hnumL, hnmL⟩ := row_open n R (fun n _ cs x => tree_open R n cs x) _ _ h1 w1
  obtain ⟨a2, e2, _, _⟩ := DataW.trod_int Tryd.underlying3 h2
  injection he1 with he1 _
  injection e2 with e2 _
  subst he1 e2
  have hlen := row_len h1 w1
  refine ⟨x, l, a2, A, B, c, e, ?_, hc, hC, hCl, hnum, hnumL, ?_, hlen⟩
  · rw [show (#[c0, c1, c2, c3, .slice B l.length e, .int .i64 a2] : Array Value) = ([c0, c1, c2, c3] ++ [Value.slice B l.length e, Value.int .i64 a2]).toArray from rfl, he]
    rfl
  · rw [RefW.nmL_le]
    intro y hy
    rcases List.mem_append.1 hy with hy | hy
    · rw [List.mem_singleton] at hy
      subst hy
      exact hnm
    · exact (RefW.nmL_le l R).1 hnmL y hy
end

set_option maxHeartbeats 1000000 in
set_option maxRecDepth 100000 in
theorem lifted (os : Os) (started : os.Started) (H : Type) (enc : TypeId × Value → H) :
    ReturnsInHanded {} Tryd.checked os 5 .any (fun w args => (Rows.writeClausesSpec.pre enc Tryd.prog Tryd.f5 [] false w args ∧ laidMetH Tryd.prog laidWrite w) ∧ sizedMet enc Tryd.prog Tryd.f5 (OpenSpec.ofChange Rows.writeClausesSpec) false w args)
      (Rows.writeClausesSpec.post enc Tryd.prog Tryd.f5 false true false false) := by
  refine returnsInHanded_of_laid_shaped (C := Tryd.checked) (X := fun w _ => laidMetH Tryd.prog laidWrite w) (fun _ _ _ hh h => h.of_heap hh) own started (by kernel_rfl) Tryd.func5
    (ChangeSpec.witness_shaped (enc := enc) (C := Tryd.checked) (os := os) (X := fun w _ => laidMetH Tryd.prog laidWrite w) false (doorW os) #[.agg #[.int .u8 0, .string ByteArray.empty, .int .i64 0, .slice none 0 0, .slice none 0 0, .int .i64 0]] 8 rfl (World.shaped_of_RefB (by kernel_rfl) (by kernel_rfl)) (by kernel_rfl) (by kernel_rfl) (by kernel_rfl) (door_metW os _)) ?_
  intro W base args ds gs before hval0 hW hsz0 hL hsh
  have hsz : (DataW.weightsEach Tryd.prog (Tryd.f5.params.toList ++ Rows.writeClausesSpec.plain.varTypes Tryd.prog) (ds ++ gs)).all (· ≤ reachBytes) = true := hsz0
  have hval : ∀ (j : Nat) t v, Tryd.f5.params[j]? = some t → args[j]? = some v → Value.okWide Tryd.prog W .any base t v := hval0
  have hW' := hW
  obtain ⟨p, q, hA0, hV, rfl, hfz, hnd⟩ := hW
  have hA : DataW.TrodAll enc Tryd.prog W 0 (fun _ => true) true Tryd.f5.params.toList args.toList ds p := hA0
  rw [Tryd.params5] at hA hval hsz
  obtain ⟨v0, vs0, d0, ds0, p0, q0, hargs, rfl, rfl, h0, r0⟩ := trodAll_cons hA
  obtain ⟨rfl, rfl, rfl⟩ := trodAll_nil r0
  obtain rfl : args = #[v0] := by cases args; simp_all
  obtain ⟨rfl, rfl⟩ := trodVars_none hV
  have k0 := h0
  have lt0 : ∀ x ∈ p0, x.block < W.heap.size := by obtain ⟨m, hm⟩ := k0; exact DataW.trod_lt m _ _ _ hm
  have hw0 : ∀ k ∈ d0.weights Tryd.prog 35, k ≤ reachBytes := by
    intro k hk
    have := List.all_eq_true.1 hsz k (List.mem_append_left _ hk)
    simpa using this
  obtain ⟨x, bd, n, A, B, c, e, rfl, hc, hC, hCl, hnum, hnumL, hnm, hlen⟩ := open_clause (hval 0 35 v0 rfl rfl) h0 hw0
  clear hA0 hval0 hsz0 hsz
  have hlen' : (1 + bd.length) * 56 ≤ 140737488355328 := by
    rw [Nat.add_mul]
    exact Nat.le_trans (Nat.add_le_add_left hlen _) (by decide)
  refine (WriteClauses_calls x bd n A B c e W (laidW_of hL) hc hC hCl hnum hnumL (Nat.le_trans hnm (by decide)) hlen').mono fun e W' ⟨he, bel⟩ => ?_
  subst he
  exact ⟨_, rfl, _, _, _, [], _, [], hW', trodAll_mk1 (shut_bool Tryd.underlying4 _), (trodAll_cons_mk (Below.trod laidOut (by kernel_rfl) (of_decide_eq_true (by kernel_rfl)) k0 bel lt0) trodAll_mk0), rfl, bel.frame _, fun h => by cases h⟩

theorem over : Rows.writeClausesRow.holds Tryd.pinned (OpenSpec.ofChange Rows.writeClausesSpec) :=
  OpenClaim.holds_of_wide 5 Tryd.f5 rfl rfl rfl rfl rfl rfl rfl ⟨rfl, rfl, rfl, rfl, rfl⟩ rfl rfl rfl rfl rfl (by kernel_rfl) Tryd.func5 (by kernel_rfl)
    (of_decide_eq_true (by kernel_rfl)) (by unfold Func.isWrapper; first | (rw [if_pos (by decide +kernel)]; kernel_rfl) | (rw [if_neg (by decide +kernel)]; exact ⟨rfl, rfl⟩))
    (fun os started H enc _ => lifted os started H enc)

theorem card_holds : Rows.WriteClausesCardSaid :=
  Claim7.holds_tied_plain_at .later [] [.data, .data, .data, .data, .pinned] true (true, "85e050d40239c38b7e9cc6fc5da1a01238f5fd38d73fae6cf4096b0d68772169") true
    over (fun _ h => by cases h) (by kernel_rfl) (fun _ h => by cases h) writeClauses_row_tie rfl ⟨rfl, rfl⟩ (by kernel_rfl) rfl
    (fun f fn hf hfn => by
      obtain rfl : f = 5 := Option.some.inj ((show Tryd.prog.funcNamed "resolvent/resolventlaw08.WriteClauses" = some 5 by kernel_rfl).symm.trans hf) |>.symm
      obtain rfl : fn = Tryd.f5 := (Option.some.inj (Tryd.func5.symm.trans hfn)).symm
      exact ⟨by kernel_rfl, fun j t ht => by
        rw [Tryd.params5] at ht
        have hm : t ∈ [35] := by simpa using Array.mem_of_getElem? ht
        have hall : ([35].all fun u => !Tryd.prog.wantsStandIn u) = true := by kernel_rfl
        exact (show Tryd.prog.wantsStandIn t = false by simpa using List.all_eq_true.1 hall t hm)⟩)
    (by kernel_rfl)

#print axioms card_holds
end Go.Proofs.YthnjdfblappkfaaDoor.WriteClausesRow
