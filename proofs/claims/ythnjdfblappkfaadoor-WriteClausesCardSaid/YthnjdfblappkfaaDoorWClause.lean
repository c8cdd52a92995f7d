/-
  write.Clause, and the law's own text of a clause.
-/
import Derived.Test.YthnjdfblappkfaaDoorWTells
namespace Go.Proofs.YthnjdfblappkfaaDoor
open Go.RowKit Go.Proofs.YthnjdfblappkfaaDoorW.PrintWords Go.Proofs.YthnjdfblappkfaaDoorW.PrintLast Go.Proofs.YthnjdfblappkfaaDoorW.PrintMore Go.Proofs.YthnjdfblappkfaaDoor.P

theorem both_list (w : World) (hL : LaidW w) (x : S24) (hnum : RefW.numT x = true) (hsz : RefW.sizeT x ≤ 1000) (hnm : RefW.nmT x ≤ 200) : ∃ r : List UInt8, r.length ≤ 450000 ∧ Both w x ⟨r.toArray⟩ := by
  obtain ⟨t, ht⟩ := both_of w hL x hnum hsz hnm
  have e : (⟨t.data.toList.toArray⟩ : ByteArray) = t := by cases t; simp
  refine ⟨t.data.toList, ?_, by rw [e]; exact ht⟩
  rw [Array.length_toList]
  exact ht.len
theorem Both.below {w w' : World} {x : S24} {t : ByteArray} (h : Both w x t) (hb : Below w.heap.size w w') : Both w' x t :=
  ⟨fun W v hW => h.text W v (hb.trans (hW.mono hb.size)), fun W v hW => h.good W v (hb.trans (hW.mono hb.size)), h.len⟩

/-- A clause's text, so far. -/
def clS (h : List UInt8) (ts : Nat → List UInt8) : Nat → List UInt8
  | 0 => h
  | i + 1 => clS h ts i ++ ((if i = 0 then [32, 58, 45, 32] else [44]) ++ ts i)
theorem clS_len (h : List UInt8) (ts : Nat → List UInt8) (hh : h.length ≤ 450000) (ht : ∀ i, (ts i).length ≤ 450000) : ∀ i, (clS h ts i).length ≤ 450000 + 450004 * i
  | 0 => by simpa [clS] using hh
  | i + 1 => by
    have := clS_len h ts hh ht i
    have h2 := ht i
    simp only [clS, List.length_append]
    split <;> simp <;> omega
theorem clS_succ (h : List UInt8) (ts : Nat → List UInt8) (i : Nat) : clS h ts (i + 1) = clS h ts i ++ ((if i = 0 then [32, 58, 45, 32] else [44]) ++ ts i) := rfl

theorem app_list (a b : List UInt8) : ((⟨a.toArray⟩ : ByteArray) ++ ⟨b.toArray⟩) = ⟨(a ++ b).toArray⟩ := by
  apply ByteArray.ext
  rw [ByteArray.data_append]
  simp

set_option maxHeartbeats 4000000 in
set_option maxRecDepth 100000 in
theorem Clause_calls (hd : S24) (bd : List S24) (n : Int) (A B : Option Addr) (c d : Nat) (w : World) (h : List UInt8) (ts : Nat → List UInt8) (hlen : bd.length ≤ 1000)
    (hH : TermV w hd (.agg #[.int .u8 hd.f0, .string hd.f1, .int .i64 hd.f2, .slice A hd.f3.length c])) (hC : Kd.C k24 w B bd.length bd)
    (hh : h.length ≤ 450000) (ht : ∀ i, (ts i).length ≤ 450000) (HH : Both w hd ⟨h.toArray⟩) (HB : ∀ i (hi : i < bd.length), Both w bd[i] ⟨(ts i).toArray⟩) :
    Calls Tryd.prog 22 #[.agg #[.int .u8 hd.f0, .string hd.f1, .int .i64 hd.f2, .slice A hd.f3.length c, .slice B bd.length d, .int .i64 n]] w fun e w' => e = .returned (.string ⟨(clS h ts bd.length ++ [32, 46, 10]).toArray⟩) ∧ Below w.heap.size w w' := by
  have hu24 := Tryd.underlying24
  have hu35 := Tryd.underlying35
  have hbx : Below w.heap.size w (w.alloc (.cells #[.int .u8 hd.f0, .string hd.f1, .int .i64 hd.f2, .slice A hd.f3.length c, .slice B bd.length d, .int .i64 n] 35)) := (Below.refl _ w).alloc (Nat.le_refl _) _
  have hT := (MapKept.heap_alloc w (.cells #[.int .u8 hd.f0, .string hd.f1, .int .i64 hd.f2, .slice A hd.f3.length c, .slice B bd.length d, .int .i64 n] 35)).1
  have hs1 : w.heap.size < (w.alloc (.cells #[.int .u8 hd.f0, .string hd.f1, .int .i64 hd.f2, .slice A hd.f3.length c, .slice B bd.length d, .int .i64 n] 35)).heap.size := by rw [World.size_alloc]; exact Nat.lt_succ_self _
  obtain ⟨w1, hw1⟩ : ∃ w1, w.alloc (.cells #[.int .u8 hd.f0, .string hd.f1, .int .i64 hd.f2, .slice A hd.f3.length c, .slice B bd.length d, .int .i64 n] 35) = w1 := ⟨_, rfl⟩
  rw [hw1] at hbx hT hs1
  have a0 := Lib.cell_of_heap hT 0
  have a1 := Lib.cell_of_heap hT 1
  have a2 := Lib.cell_of_heap hT 2
  have a3 := Lib.cell_of_heap hT 3
  have HT := Lib.hid (HH.text w1 _ hbx (hH.below hbx))
  have HBB := Lib.hid HB
  have HTS := Lib.hid ht
  have hcl := clS_len h ts hh ht
  clear HH HB ht hH
  go_enter Tryd.func22, Tryd.ntmps22
  go_wp2_with fail
  refine HT.out.mono ?_
  rintro e w2 ⟨rfl, hb2⟩
  have hB2 := hbx.trans (hb2.mono hbx.size)
  have hT2 := (hb2.block w.heap.size hs1).trans hT
  have hs2 := Nat.lt_of_lt_of_le hs1 hb2.size
  clear a0 a1 a2 a3 HT hb2 hT hs1 hw1
  have b4 := Lib.cell_of_heap hT2 4
  go_wp2
  go_loopw [3, 12] (fun v3 v12 wr => ∃ i : Nat, v12 = .int .i64 i ∧ i ≤ bd.length ∧ v3 = .string ⟨(clS h ts i).toArray⟩ ∧ Below w2.heap.size w2 wr) (fun _ v12 _ => bd.length - (intOf v12).toNat)
  case atStart => exact ⟨0, rfl, Nat.zero_le _, rfl, Below.refl _ _⟩
  case round =>
    obtain ⟨i, rfl, hi, rfl, hbr⟩ := hrel
    have hBr := hB2.trans (hbr.mono hB2.size)
    have hPl := hcl i
    by_cases hlt : i < bd.length
    · have hdd : decide ((i : Int) < (bd.length : Int)) = true := by simp; omega
      obtain ⟨ad, A3, c3, rfl, e0, e1, e2, e3, hc3, hC3⟩ := at_T24 (Kd.C_below hC hBr) i (by omega) (by omega)
      rw [rd_at bd i hlt] at e0 e1 e2 e3 hc3 hC3
      rw [Int.toNat_natCast] at e0 e1 e2 e3
      have hV : TermV wr bd[i] (.agg #[.int .u8 bd[i].f0, .string bd[i].f1, .int .i64 bd[i].f2, .slice A3 bd[i].f3.length c3]) := ⟨A3, c3, rfl, hc3, hC3⟩
      have hbg : Below wr.heap.size wr (wr.alloc (.cells #[.int .u8 bd[i].f0, .string bd[i].f1, .int .i64 bd[i].f2, .slice A3 bd[i].f3.length c3] 24)) := (Below.refl _ wr).alloc (Nat.le_refl _) _
      have hcall := (HBB.out i hlt).text _ _ (hBr.trans (hbg.mono hBr.size)) (hV.below hbg)
      have HCALL := Lib.hid hcall
      have hti := HTS.out i
      have hPl2 : (clS h ts i).length ≤ 460000000 := by omega
      have hS := clS_succ h ts i
      obtain ⟨P, hP⟩ : ∃ P, clS h ts i = P := ⟨_, rfl⟩
      obtain ⟨t, htE⟩ : ∃ t, ts i = t := ⟨_, rfl⟩
      rw [hP] at hPl hPl2 hS ⊢
      rw [htE] at hti hS HCALL
      clear hcall hC3 hV
      by_cases i0 : i = 0
      · have z0 : ((i : Int) == 0) = true := by simp; omega
        rw [if_pos i0] at hS
        have HS := Lib.hid hS
        clear i0 hS hP htE
        go_wp2_with (go_at_call 15; refine HCALL.out.mono ?_; rintro e w3 ⟨rfl, hb3⟩)
        exact ⟨⟨i + 1, by simp, by omega, by rw [HS.out, ← app_list, ← app_list], hbr.trans ((hbg.trans (hb3.mono hbg.size)).mono hbr.size)⟩, by simp [intOf]; omega⟩
      · have z0 : ((i : Int) == 0) = false := by simp; omega
        rw [if_neg i0] at hS
        have HS := Lib.hid hS
        clear i0 hS hP htE
        go_wp2_with (go_at_call 15; refine HCALL.out.mono ?_; rintro e w3 ⟨rfl, hb3⟩)
        exact ⟨⟨i + 1, by simp, by omega, by rw [HS.out, ← app_list, ← app_list], hbr.trans ((hbg.trans (hb3.mono hbg.size)).mono hbr.size)⟩, by simp [intOf]; omega⟩
    · have hdd : decide ((i : Int) < (bd.length : Int)) = false := by simp; omega
      obtain rfl : i = bd.length := by omega
      obtain ⟨P, hP⟩ : ∃ P, clS h ts bd.length = P := ⟨_, rfl⟩
      rw [hP] at hPl ⊢
      have HP := Lib.hid hP
      clear hP
      go_wp2
      go_ret
      refine ⟨?_, hBr⟩
      rw [← app_list, HP.out]
      rfl

theorem append_none (w : World) {base : Nat} {e : TypeId} {size : Nat} (t ty : TypeId) (i : TypeInfo) (ht : Tryd.prog.underlying t = some (.slice e)) (hi : Tryd.prog.info? e = some i)
    (v : Value) (n c : Nat) (xs : List Value) (hown : w.ownsRow base e size v n xs) :
    (Builtin.append_ #[t, t] ty #[v, .slice none 0 c]).run Tryd.prog w = .ok v w := by
  rcases hown.2 with ⟨rfl, rfl⟩ | ⟨g, cap, cur, rfl, _, _, hnc, _⟩
  · simp [Builtin.append_, run_underlying ht, sizeOf, typeInfo, hi, Builtin.lenOf, Builtin.firstCells]
  · simp [Builtin.append_, run_underlying ht, sizeOf, typeInfo, hi, Builtin.lenOf, Builtin.firstCells, hnc, storeCells]

set_option maxHeartbeats 2000000 in
set_option maxRecDepth 100000 in
/-- append, of terms that stand in a world that is kept. -/
theorem append_terms {ops : Array Oper} {rest : List Oper} {o : Oper} {a : Act} {Q : Exit → Act → World → Prop} (W w : World) (hgd : o.guard = none) (s x : Operand)
    (ho : o.op = .call { callee := .builtin .append, args := #[s, x], argTypes := #[22, 22] })
    (v : Value) (l1 l2 : List S24) (inner : List Value) (hs : a.eval s = v) (hown : w.ownsRow W.heap.size 24 4 v l1.length inner) (hrep : Reps (k24.K W) 4 l1 inner) (hb : Below W.heap.size W w)
    (B : Option Addr) (d : Nat) (hx : a.eval x = .slice B l2.length d) (hC : Kd.C k24 W B l2.length l2) (hlen : (l1.length + l2.length) * 56 ≤ 140737488355328)
    (hK : ∀ A' c' w', l1.length + l2.length ≤ c' → Kd.C k24 w' A' (l1.length + l2.length) (l1 ++ l2) → Below W.heap.size W w' → wpList Tryd.prog ops Q rest (a.put o.dst (.slice A' (l1.length + l2.length) c')) w') :
    wpList Tryd.prog ops Q (o :: rest) a w := by
  obtain ⟨i0, hi, hz0, hz1, hz2⟩ := info_parts termInfo
  have fin : ∀ (v' : Value) (w' : World) (cs : List Value), w'.ownsRow W.heap.size 24 4 v' (l1.length + l2.length) cs → Reps (k24.K W) 4 (l1 ++ l2) cs → Below W.heap.size W w' → wpList Tryd.prog ops Q rest (a.put o.dst v') w' := by
    intro v' w' cs h1 h2 h3
    have h1' : w'.ownsRow W.heap.size 24 4 v' (l1 ++ l2).length cs := by rw [List.length_append]; exact h1
    obtain ⟨A', c', he, hle, hR⟩ := OwnRow.reads (R := k24.K W) (ps := l1 ++ l2) ⟨cs, h1', h2⟩
    subst he
    rw [List.length_append] at hle hR ⊢
    exact hK A' c' w' hle (ReadsRow.imp_ hR (Below.refl _ _) (fun p c hp => k24.K_below h3 hp)) h3
  rcases B with _ | ad
  · obtain rfl : l2 = [] := by
      rcases Nat.eq_zero_or_pos l2.length with h | h
      · exact List.length_eq_zero_iff.1 h
      · obtain ⟨_, h, _⟩ := hC.2.2 h
        cases h
    have hr := append_none w 22 o.type i0 Tryd.underlying22 hi v l1.length d inner hown
    have hx' : a.eval x = .slice none 0 d := hx
    refine wpList_plain hgd fun K hK' => ?_
    unfold Oper.wp execOp
    simp only [ho, resolve, invoke, builtin, Sem.run_bind, Sem.run_pure, Result.andThen_ok, List.map_toArray, List.map_cons, List.map_nil, hs, hx', hr]
    exact hK' _ _ (fin v w inner (by simpa using hown) (by simpa using hrep) hb)
  · obtain ⟨news, hrep2, hcells0⟩ := ReadsRow.inner_ hC
    have hcells : ∀ j u, news[j]? = some u → w.cell? (ad.add j) = some u := fun j u hu => (hb.cell (World.block_lt_of_cell? W _ (hcells0 j u hu))).trans (hcells0 j u hu)
    have hone : ∀ u ∈ news, u.oneCell' = true := by
      intro u hu
      obtain ⟨q, hq, rfl⟩ := List.mem_iff_getElem.1 hu
      have hql : q / 4 < l2.length := by
        rw [Nat.div_lt_iff_lt_mul (by decide)]
        have := hrep2.1
        have h4 : k24.sz = 4 := rfl
        rw [h4] at this
        omega
      have hk := hrep2.2 (q / 4) _ (List.getElem?_eq_getElem hql)
      refine k24.K_one hk _ ?_
      rw [List.mem_iff_getElem?]
      refine ⟨q % 4, ?_⟩
      show (List.take 4 (List.drop (q / 4 * 4) news))[q % 4]? = _
      rw [List.getElem?_take, if_pos (Nat.mod_lt _ (by decide)), List.getElem?_drop, Nat.mul_comm, Nat.div_add_mod, List.getElem?_eq_getElem hq]
    have hlen4 : news.length = l2.length * 4 := hrep2.1
    refine wpList_append_own w hgd s x 22 ho W.heap.size 24 i0 _ 4 56 Tryd.underlying22 hi hz0 hz1 hz2 rfl (by decide) v l1.length inner hs hown ad l2.length d news hx hlen4 hcells hone (by unfold maxLen; omega) hlen hb.size ?_
    intro v' w1 hown' hgrow _
    refine fin v' w1 (inner ++ news) hown' (Kd.reps_append hrep hrep2) (hb.grown hgrow hb.size ?_)
    intro k hk
    rcases hown.2 with ⟨rfl, _⟩ | ⟨g, cap, cur, rfl, hbg, _⟩
    · simp [Value.ownBlock] at hk
    · simp [Value.ownBlock] at hk
      omega
end Go.Proofs.YthnjdfblappkfaaDoor
