/-
  write.joined: the texts of what an iterator yields, with commas between.
-/
import Derived.Test.YthnjdfblappkfaaDoorWText
import Derived.Laws.EntriesVeiled
namespace Go.Proofs.YthnjdfblappkfaaDoor
open Go.RowKit Go.Proofs.YthnjdfblappkfaaDoorW.PrintWords Go.Proofs.YthnjdfblappkfaaDoorW.PrintLast Go.Proofs.YthnjdfblappkfaaDoorW.PrintMore Go.Proofs.YthnjdfblappkfaaDoor.P
attribute [local go_sem] Oper.semAt_some

/-- What an iterator's own steps may do: new blocks, and terms' variables from n₀ on. -/
structure IterKeeps (n₀ : Nat) (W W' : World) : Prop where
  os : W'.os = W.os
  tape : W'.tape = W.tape
  output : W'.output = W.output
  size : W.heap.size ≤ W'.heap.size
  block : ∀ k, k < W.heap.size → W'.heap[k]? = W.heap[k]? ∨ (n₀ ≤ k ∧ ∃ c f, W.heap[k]? = some (.cells c 24 f))
theorem IterKeeps.kept {n₀ : Nat} {W W' : World} (h : IterKeeps n₀ W W') {k : Nat} {o : Obj} (hk : W.heap[k]? = some o) (ho : ∀ c f, o ≠ .cells c 24 f) : W'.heap[k]? = some o := by
  rcases h.block k (Array.getElem?_eq_some_iff.1 hk).1 with h1 | ⟨_, c, f, h1⟩
  · exact h1.trans hk
  · rw [hk] at h1
    exact absurd (Option.some.inj h1) (ho c f)
/-- What a round keeps. -/
def CellsBut (bp : Nat) (W W' : World) : Prop := W.heap.size ≤ W'.heap.size ∧ ∀ (k : Nat) c t f, W.heap[k]? = some (Obj.cells c t f) → t ≠ 9 → k ≠ bp → W'.heap[k]? = some (Obj.cells c t f)

theorem mapO_get (f : S24 → Option (List UInt8)) : ∀ (xs : List S24) (rs : List (List UInt8)), mapO f xs = some rs → rs.length = xs.length ∧ ∀ i (h : i < xs.length) (h' : i < rs.length), f xs[i] = some rs[i]
  | [], rs, h => by simp [mapO] at h; subst h; exact ⟨rfl, fun i h => by simp at h⟩
  | x :: l, rs, h => by
    simp only [mapO, Option.bind_eq_some_iff] at h
    obtain ⟨r, hr, rs', hrs, h⟩ := h
    obtain rfl := Option.some.inj h
    obtain ⟨h1, h2⟩ := mapO_get f l rs' hrs
    refine ⟨by simp [h1], fun i hi hi' => ?_⟩
    cases i with
    | zero => exact hr
    | succ i => exact h2 i (by simpa using hi) (by simpa using hi')

/-- An iterator: what it does at whatever loop over it. -/
def IterOK (gf : Nat) (lb : Array Value) (n₀ : Nat) (w : World) (m : Nat) (R : Nat → Value → Prop) (Fin : World → Prop) : Prop :=
  ∀ (l bp : Nat) (J : Nat → World → Prop), w.heap.size ≤ bp →
    (∀ i W W', J i W → IterKeeps n₀ W W' → J i W') →
    (∀ i W, J i W → Below n₀ w W ∧ w.heap.size ≤ W.heap.size) →
    (∀ n i v W, i < m → J i W → R i v → YieldAt Fence.wide n Tryd.prog l #[v] W fun e W' => e = .returned (.bool true) ∧ J (i + 1) W' ∧ CellsBut bp W W') →
    ∀ n W1, J 0 W1 → (∀ k, k < w.heap.size → W1.heap[k]? = w.heap[k]?) →
      CallsIn Fence.wide n Tryd.prog gf (#[.func (.yield l) #[] #[]] ++ lb) W1 fun e W' => (∃ v, e = .returned v) ∧ J m W' ∧ Fin W'

set_option maxHeartbeats 2000000 in
set_option maxRecDepth 100000 in
theorem joined_calls {k : Nat} (hk : TextOK k) (gf : Nat) (lb : Array Value) (n₀ : Nat) (wb w : World) (xs : List S24) (rs : List (List UInt8)) (Fin : World → Prop)
    (eg : ∀ args w, (callFunc gf args).run Tryd.prog w = .ok (.enter gf args) w)
    (hL : LaidW wb) (hwb : Below wb.heap.size wb w) (h1 : wb.heap.size ≤ n₀) (h2 : n₀ ≤ w.heap.size) (hrs : mapO (textF k) xs = some rs) (hsm : small rs)
    (hit : IterOK gf lb n₀ w xs.length (fun i v => ∃ h : i < xs.length, TermV wb xs[i] v) Fin)
    (hFin : ∀ A B : World, Fin A → (∀ (j : Nat) c f, A.heap[j]? = some (Obj.cells c 24 f) → B.heap[j]? = some (Obj.cells c 24 f)) → Fin B) :
    Calls Tryd.prog 60 #[.func (.func gf) #[] lb] w fun e w' => e = .returned (.string ⟨(joinC rs).toArray⟩) ∧ Below n₀ w w' ∧ Fin w' := by
  refine (callsIn_wide (n := 9)).1 ?_
  refine callsIn_of_wp_marks Tryd.func60 rfl trivial ?_ rfl
  simp only [Tryd.ntmps60, List.size_toArray, List.length_cons, List.length_nil, Nat.reduceAdd, Nat.reduceSub, Array.replicate_succ, Array.replicate_zero, List.push_toArray, List.append_toArray, List.nil_append, List.cons_append]
  gi_wp2
  have hp2 : ((w.alloc (Obj.cells #[Value.slice none 0 0] 58)).alloc (Obj.cells #[Value.func (Fn.func 99) #[] #[Value.pointer (some { block := w.heap.size, off := 0 })]] 131)).heap[w.heap.size]? = some (.cells #[Value.slice none 0 0] 58 (0, 0)) :=
    (Below.heap_alloc _ _ _ (by rw [World.size_alloc]; omega)).trans (MapKept.heap_alloc w _).1
  have ha2 : ((w.alloc (Obj.cells #[Value.slice none 0 0] 58)).alloc (Obj.cells #[Value.func (Fn.func 99) #[] #[Value.pointer (some { block := w.heap.size, off := 0 })]] 131)).heap[w.heap.size + 1]? = some (.cells #[Value.func (Fn.func 99) #[] #[Value.pointer (some { block := w.heap.size, off := 0 })]] 131 (0, 0)) := by
    have := (MapKept.heap_alloc (w.alloc (Obj.cells #[Value.slice none 0 0] 58)) (Obj.cells #[Value.func (Fn.func 99) #[] #[Value.pointer (some { block := w.heap.size, off := 0 })]] 131)).1
    rwa [World.size_alloc] at this
  have hz2 : ((w.alloc (Obj.cells #[Value.slice none 0 0] 58)).alloc (Obj.cells #[Value.func (Fn.func 99) #[] #[Value.pointer (some { block := w.heap.size, off := 0 })]] 131)).heap.size = w.heap.size + 2 := by rw [World.size_alloc, World.size_alloc]
  have hb2 : Below w.heap.size w ((w.alloc (Obj.cells #[Value.slice none 0 0] 58)).alloc (Obj.cells #[Value.func (Fn.func 99) #[] #[Value.pointer (some { block := w.heap.size, off := 0 })]] 131)) := ((Below.refl _ w).alloc (Nat.le_refl _) _).alloc (by rw [World.size_alloc]; omega) _
  generalize (w.alloc (Obj.cells #[Value.slice none 0 0] 58)).alloc (Obj.cells #[Value.func (Fn.func 99) #[] #[Value.pointer (some { block := w.heap.size, off := 0 })]] 131) = w2 at hp2 ha2 hz2 hb2 ⊢
  obtain ⟨hlen, hget⟩ := mapO_get _ _ _ hrs
  have hbase : ∀ W, Below n₀ w W → Below wb.heap.size wb W := fun W h => hwb.trans (h.mono h1)
  refine wp_range_own (P := Tryd.prog) (gf := gf) (lb := lb) rfl eg
    (fun i W => Parts n₀ w.heap.size (rs.take i) W ∧ W.heap[w.heap.size + 1]? = some (.cells #[Value.func (Fn.func 99) #[] #[Value.pointer (some { block := w.heap.size, off := 0 })]] 131 (0, 0)) ∧ Below n₀ w W)
    (fun i v => ∃ h : i < xs.length, TermV wb xs[i] v) xs.length
    (fun i v a' W => (Parts n₀ w.heap.size (rs.take i) W ∧ W.heap[w.heap.size + 1]? = some (.cells #[Value.func (Fn.func 99) #[] #[Value.pointer (some { block := w.heap.size, off := 0 })]] 131 (0, 0)) ∧ Below n₀ w W) ∧
      ∃ Bx f0 f1 f2 f3, v = .agg #[f0, f1, f2, f3] ∧ W.heap[Bx]? = some (.cells #[f0, f1, f2, f3] 24 (0, 0)) ∧
        a' = { tmps := #[Value.func (Fn.func gf) #[] lb, undef, Value.string { data := #[] }, Value.pointer (some { block := w.heap.size, off := 0 }), Value.pointer (some { block := w.heap.size + 1, off := 0 }), .pointer (some ⟨Bx, 0, none⟩),
          Value.func (Fn.func 99) #[] #[Value.pointer (some { block := w.heap.size, off := 0 })], Value.func (Fn.func gf) #[] lb, v, undef, undef, undef, undef, undef], defers := [] })
    (CellsBut w.heap.size) Fin ?kt ?kc ?fin ?hI ?hA ?h0 ?assign ?body ?iter ?done
  case kt => exact fun A B C h g => ⟨Nat.le_trans h.1 g.1, fun k c t f hk ht hb => g.2 k c t f (h.2 k c t f hk ht hb) ht hb⟩
  case kc => exact fun A B h => ⟨h.1, fun k c t f hk _ _ => h.2 k c t f hk⟩
  case fin => exact fun A B h g => hFin A B h (fun j c f hj => g.2 j c _ f hj)
  case hI =>
    rintro i W W' ⟨hp, ha, hb⟩ hbut hc
    have hb' : Below n₀ w W' := ⟨hbut.os.trans hb.os, hbut.tape.trans hb.tape, hbut.output.trans hb.output, Nat.le_trans hb.size hbut.size, fun k hk => (hbut.block k (by have := hb.size; omega) (by omega)).trans (hb.block k hk)⟩
    exact ⟨hp.same h2 (fun j c f hj _ => by rcases hj with hj | hj <;> rw [hj, hc.2 _ _ _ _ hj]), hc.2 _ _ _ _ ha, hb'⟩
  case hA =>
    rintro i v a' W W' ⟨⟨hp, ha, hb⟩, Bx, f0, f1, f2, f3, hv, hx, ha'⟩ hbut hc
    have hb' : Below n₀ w W' := ⟨hbut.os.trans hb.os, hbut.tape.trans hb.tape, hbut.output.trans hb.output, Nat.le_trans hb.size hbut.size, fun k hk => (hbut.block k (by have := hb.size; omega) (by omega)).trans (hb.block k hk)⟩
    exact ⟨⟨hp.same h2 (fun j c f hj _ => by rcases hj with hj | hj <;> rw [hj, hc.2 _ _ _ _ hj]), hc.2 _ _ _ _ ha, hb'⟩, Bx, f0, f1, f2, f3, hv, hc.2 _ _ _ _ hx, ha'⟩
  case h0 =>
    exact ⟨⟨_, hp2, World.ownsRow_nil _ _ _ _⟩, ha2, hb2.mono h2⟩
  case assign =>
    rintro n i v W K ⟨hp, ha, hb⟩ ⟨hi, A, c, rfl, hc, hC⟩ hrec hK
    gi_wp2
    have hlt := hrec.lt
    refine hK _ _ ⟨⟨hp.below h2 ((Below.refl _ W).alloc (Nat.le_refl _) _), (Below.heap_alloc W _ _ (Array.getElem?_eq_some_iff.1 ha).1).trans ha, hb.alloc (Nat.le_trans h2 hb.size) _⟩, W.heap.size, _, _, _, _, rfl, (MapKept.heap_alloc W _).1, rfl⟩ ⟨Below.heap_alloc W _ _ (by omega), Below.heap_alloc W _ _ (by omega)⟩ ?_
    exact ⟨(CellsKept.alloc W _).1, fun k c t f hk _ _ => (CellsKept.alloc W _).2 k c t f hk⟩
  case body =>
    rintro n i v a' W hi ⟨⟨hp, ha, hb⟩, Bx, f0, f1, f2, f3, hv, hx, rfl⟩ ⟨hi', hV⟩ hrec
    have hir : i < rs.length := by omega
    have hbW := hbase W hb
    have hVW := hV.below hbW
    have hLW := hL.below hbW
    have hH := Lib.hid (hget i hi hir)
    have hT : Hid (rs.take i ++ [rs[i]] = rs.take (i + 1)) := (List.take_succ_eq_append_getElem hir).symm
    have c1 : W.cell? ⟨w.heap.size + 1, 0, none⟩ = some (.func (.func 99) #[] #[.pointer (some ⟨w.heap.size, 0, none⟩)]) := Lib.cell_of_heap ha 0
    have x0 : W.cell? ⟨Bx, 0, none⟩ = some f0 := Lib.cell_of_heap hx 0
    have x1 : W.cell? ⟨Bx, 1, none⟩ = some f1 := Lib.cell_of_heap hx 1
    have x2 : W.cell? ⟨Bx, 2, none⟩ = some f2 := Lib.cell_of_heap hx 2
    have x3 : W.cell? ⟨Bx, 3, none⟩ = some f3 := Lib.cell_of_heap hx 3
    have hlt := hrec.lt
    obtain ⟨⟨lr, hlr⟩, hdr⟩ := hrec
    have hu24 := Tryd.underlying24
    have hsm1 := hsm.1
    have htl : (rs.take i).length ≤ 1048576 := by rw [List.length_take]; omega
    obtain ⟨A, c, hv2, _, _⟩ := id hVW
    rw [hv2] at hv
    obtain ⟨rfl, rfl, rfl, rfl⟩ : f0 = _ ∧ f1 = _ ∧ f2 = _ ∧ f3 = _ := by
      injection hv with h
      injection h with h
      injection h with h0 h
      injection h with h1 h
      injection h with h2 h
      injection h with h3 h
      exact ⟨h0.symm, h1.symm, h2.symm, h3.symm⟩
    subst hv2
    clear hp2 ha2 hb2 hV hv
    have hHH := hH.out
    have hcall := CallsIn.inRound (n := n - 1) (w2.heap.size + 1) (callsIn_wide.2 (joined1_calls hk n₀ w.heap.size xs[i] _ rs[i] (rs.take i) W hLW hVW hHH hp h2 (Nat.le_trans h2 hb.size) htl))
    have hHid := Lib.hid hcall
    clear hcall hHH
    rw [hz2] at *
    gi_wp2_with fail
    refine ⟨trivial, fun h => absurd h (by simp [Fence.wide]), ?_⟩
    refine hHid.out.mono ?_
    rintro e W' ⟨⟨u, rfl⟩, hp', hbW', hok⟩
    gi_wp2
    refine ⟨⟨by rw [← hT.out]; exact hp', hok _ _ ha (fun e => by injection e with e; omega) (fun c fz e => by cases e), hb.trans hbW'⟩, ⟨(hok _ _ hdr (fun e => by injection e with e; omega) (fun c fz e => by cases e)).trans hdr.symm, (hok _ _ hlr (fun e => by injection e with e; omega) (fun c fz e => by cases e)).trans hlr.symm⟩, hbW'.size, fun k c t f hk ht hne => hok _ _ hk (fun e => by injection e with e; exact hne e) (fun c' fz e => by injection e with _ e _; exact ht e)⟩
  case iter =>
    intro J hJ1 hJ2 hJ3 n W1 hJ0 hk1 hbut
    refine hit (w2.heap.size + 1) w.heap.size J (Nat.le_refl _) ?_ ?_ hJ3 n W1 hJ0 ?_
    · intro i W W' hJ hkeep
      obtain ⟨⟨hp, ha, hb⟩, hrec⟩ := hJ1 i W hJ
      have hb' : Below n₀ w W' := ⟨hkeep.os.trans hb.os, hkeep.tape.trans hb.tape, hkeep.output.trans hb.output, Nat.le_trans hb.size hkeep.size, fun k hk => by
        rcases hkeep.block k (by have := hb.size; omega) with h | ⟨h, _⟩
        · exact h.trans (hb.block k hk)
        · omega⟩
      refine hJ2 i W W' hJ ⟨hp.same h2 (fun j c f hj _ => ?_), hkeep.kept ha (fun c f e => by cases e), hb'⟩ ?_
      · rcases hj with hj | hj <;> rw [hj] <;> exact hkeep.kept hj (fun c f e => by cases e)
      · obtain ⟨⟨r, hr⟩, hd⟩ := hrec
        exact ⟨(hkeep.kept hd (fun c f e => by cases e)).trans hd.symm, (hkeep.kept hr (fun c f e => by cases e)).trans hr.symm⟩
    · intro i W hJ
      obtain ⟨⟨hp, ha, hb⟩, hrec⟩ := hJ1 i W hJ
      exact ⟨hb, hb.size⟩
    · intro k hk
      exact (hbut.block k (by rw [hz2]; omega) (fun h => h)).trans (hb2.block k hk)
  case done =>
    rintro W ⟨hp, ha, hb⟩ hF hD
    have htk : rs.take xs.length = rs := List.take_of_length_le (by omega)
    rw [htk] at hp
    obtain ⟨pv, hpb, hown⟩ := hp
    have c1 : W.cell? ⟨w.heap.size, 0, none⟩ = some pv := Lib.cell_of_heap hpb 0
    have hb0 : Below n₀ w W := hb
    have hjoin : ∀ sep, sep = (⟨#[44]⟩ : ByteArray) → Calls Tryd.prog 100 #[pv, .string sep] W fun e w' => e = .returned (.string ⟨(joinC rs).toArray⟩) ∧ Below W.heap.size W w' := by
      rintro sep rfl
      rcases hown.2 with ⟨rfl, h0⟩ | ⟨g, cap, cur, rfl, hg0, hg, hnc, hcm, hcs, htk⟩
      · obtain rfl : rs = [] := List.length_eq_zero_iff.1 h0
        exact (Tryd.strings_Join_none none 0 ⟨#[44]⟩ W).mono (fun e w' h => ⟨h.1, by rw [h.2]; exact Below.refl _ _⟩)
      · have hcell := hown.cells (g := g) rfl
        have := Tryd.strings_Join g 0 cap (rs.map fun r => ⟨r.toArray⟩) ⟨#[44]⟩ W (fun j x hx => by
            have := hcell j (.string x) (by
              rw [List.getElem?_map] at hx ⊢
              rw [Option.map_eq_some_iff] at hx ⊢
              obtain ⟨r, hr, rfl⟩ := hx
              exact ⟨r, hr, rfl⟩)
            rw [Addr.add_lit] at this
            exact this) (Array.getElem?_eq_some_iff.1 hg).1 (by rw [List.length_map]; have := hsm.1; omega) (by rw [List.length_map]; exact hnc)
            (by have := hsm.2; unfold joinC at this; simp only [List.map_map] at *; rw [show ((fun x : ByteArray => x.data.toList) ∘ fun r : List UInt8 => (⟨r.toArray⟩ : ByteArray)) = id from rfl, List.map_id]; exact Nat.le_trans this (by decide))
        rw [List.length_map] at this
        refine this.mono (fun e w' h => ⟨?_, h.2⟩)
        rw [h.1]
        unfold joinC
        rw [List.map_map, show ((fun x : ByteArray => x.data.toList) ∘ fun r : List UInt8 => (⟨r.toArray⟩ : ByteArray)) = id from rfl, List.map_id]
    have hJ := Lib.hid (hjoin _ rfl)
    have hDD := Lib.hid hD
    clear hjoin hown hD
    gi_wp2_with fail
    refine ⟨trivial, ?_⟩
    refine (callsIn_wide.2 hJ.out).mono ?_
    rintro e W' ⟨rfl, hbJ⟩
    gi_wp2
    have hD2 := (hbJ.block _ (Array.getElem?_eq_some_iff.1 hDD.out).1).trans hDD.out
    rw [hz2] at hD2
    refine ⟨by simp, .inl ⟨_, _, rfl, run_takeDeferred hD2, ?_⟩⟩
    refine ⟨_, results_tmp rfl _ _ _, ?_⟩
    have hsz := hbJ.size
    have hb3 := hb0.trans (hbJ.mono (Nat.le_trans h2 hb0.size))
    refine ⟨rfl, ⟨hb3.os, hb3.tape, hb3.output, by simpa [World.putObj] using hb3.size, fun k hk => (World.putObj_heap_other (by omega)).trans (hb3.block k hk)⟩, hFin _ _ hF (fun j c f hj => ?_)⟩
    have hj2 := (hbJ.block j (Array.getElem?_eq_some_iff.1 hj).1).trans hj
    refine (World.putObj_heap_other ?_).trans hj2
    intro (he : j = w.heap.size + 2)
    rw [he, hD2] at hj2
    cases hj2
end Go.Proofs.YthnjdfblappkfaaDoor
