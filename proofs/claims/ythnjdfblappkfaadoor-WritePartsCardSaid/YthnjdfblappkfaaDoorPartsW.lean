/-
  WriteParts: the walk.
-/
import Derived.Test.YthnjdfblappkfaaDoorParts
import Derived.Test.YthnjdfblappkfaaDoorFoot
import Derived.Test.YthnjdfblappkfaaDoorWTells
import Derived.StillTailTactics
namespace Go.Proofs.YthnjdfblappkfaaDoor
open Go.RowKit Go.Proofs.YthnjdfblappkfaaDoorW.PrintWords Go.Proofs.YthnjdfblappkfaaDoorW.PrintLast Go.Proofs.YthnjdfblappkfaaDoorW.PrintMore Go.Proofs.YthnjdfblappkfaaDoor.P

/-- A box that holds a term, which lies elsewhere. -/
def BoxF (w : World) (g : Nat) (x : S24) : Prop := ∃ A c, w.heap[g]? = some (.cells #[.int .u8 x.f0, .string x.f1, .int .i64 x.f2, .slice A x.f3.length c] 24 (0, 0)) ∧ x.f3.length ≤ c ∧ Kd.F k24 w (fun k => k ≠ g) A x.f3.length x.f3

theorem app4 (a b c : List UInt8) : (((⟨a.toArray⟩ : ByteArray) ++ ⟨#[40]⟩) ++ ⟨b.toArray⟩) ++ ⟨c.toArray⟩ = ⟨(a ++ 40 :: (b ++ c)).toArray⟩ := by
  apply ByteArray.ext
  simp [ByteArray.data_append]

set_option maxHeartbeats 8000000 in
set_option maxRecDepth 100000 in
theorem WriteParts_calls (s : ByteArray) (l : List S24) (A : Option Addr) (c : Nat) (w : World) (hL : LaidW w) (hC : Kd.C k24 w A l.length l) (hc : l.length ≤ c) (hnum : RefW.numL l = true) (hnm : RefW.nmL l ≤ 140737488355328) :
    Calls Tryd.prog 4 #[.string s, .slice A l.length c] w fun e w' => e = .returned (.bool true) ∧ Below w.heap.size w w' := by
  have hu24 := Tryd.underlying24
  obtain ⟨b, hgr, hcall⟩ := RefW.Great_calls A c l w hC hc hnm
  have HG := Lib.hid hcall
  have HGR := Lib.hid hgr
  clear hcall hgr hnm
  go_enter Tryd.func4, Tryd.ntmps4
  go_wp2_with fail
  refine HG.out.mono ?_
  rintro e w1 ⟨rfl, hb1⟩
  have hL1 := hL.below hb1
  clear HG
  cases b with
  | true =>
    go_wp2_with fail
    refine (wakes_calls _ hL1).mono ?_
    rintro e w2 ⟨rfl, hb2⟩
    go_wp2
    go_ret
    exact ⟨rfl, hb1.trans (hb2.mono hb1.size)⟩
  | false =>
    obtain ⟨hsz, hnl⟩ := HGR.out rfl
    have hlen := RefW.sizeTL_len l
    have hl1000 : l.length ≤ 1000 := Nat.le_trans hlen hsz
    clear HGR hlen
    by_cases hne : l = []
    · have k0 : ((l.length : Int) == 0) = true := by rw [hne]; rfl
      clear hne
      go_wp2_with fail
      refine (wakes_calls _ hL1).mono ?_
      rintro e w2 ⟨rfl, hb2⟩
      go_wp2
      go_ret
      exact ⟨rfl, hb1.trans (hb2.mono hb1.size)⟩
    have hpos : 0 < l.length := List.length_pos_iff.2 hne
    have k0 : ((l.length : Int) == 0) = false := by simp; exact hne
    by_cases hs : s.size ≤ 200
    rotate_left
    · have k1 : decide ((s.size : Int) > 200) = true := decide_eq_true (by omega)
      clear hne hs
      go_wp2_with fail
      refine (wakes_calls _ hL1).mono ?_
      rintro e w2 ⟨rfl, hb2⟩
      go_wp2
      go_ret
      exact ⟨rfl, hb1.trans (hb2.mono hb1.size)⟩
    have k1 : decide ((s.size : Int) > 200) = false := decide_eq_false (by omega)
    have hF := F_calls s A c l w1 (Kd.C_below hC hb1) (Nat.le_trans hl1000 (by decide))
    have hmk : mkF s l = ⟨4, s, 0, l⟩ := by unfold mkF; rw [if_neg (by simpa using hne)]
    rw [hmk] at hF
    have HF := Lib.hid hF
    have HNE := Lib.hid hne
    clear hF hmk hne
    go_wp2_with fail
    go_at_call 19
    refine HF.out.mono ?_
    rintro e w2 ⟨⟨v2, rfl, A2, c2, rfl, hc2, hC2⟩, hb2⟩
    have hB2 := hb1.trans (hb2.mono hb1.size)
    have hC2 : Kd.C k24 w2 A2 l.length l := hC2
    obtain ⟨w3, hw3⟩ : ∃ w3, w2.alloc (.cells #[.int .u8 4, .string s, .int .i64 0, .slice A2 l.length c2] 24) = w3 := ⟨_, rfl⟩
    have hb23 : Below w2.heap.size w2 w3 := by rw [← hw3]; exact (Below.refl _ _).alloc (Nat.le_refl _) _
    have hB3 := hB2.trans (hb23.mono hB2.size)
    have hT3 : w3.heap[w2.heap.size]? = some (.cells #[.int .u8 4, .string s, .int .i64 0, .slice A2 l.length c2] 24 (0, 0)) := by rw [← hw3]; exact (MapKept.heap_alloc w2 _).1
    have HS3 : Hid (w3.heap.size = w2.heap.size + 1) := by rw [← hw3]; exact World.size_alloc _ _
    have hV3 : TermV w3 ⟨4, s, 0, l⟩ (.agg #[.int .u8 4, .string s, .int .i64 0, .slice A2 l.length c2]) := ⟨A2, c2, rfl, hc2, Kd.C_below hC2 hb23⟩
    have hgd := Good_calls ⟨4, s, 0, l⟩ _ w3 hV3
    obtain ⟨g, hg⟩ : ∃ g, goodM 64 ⟨4, s, 0, l⟩ = g := ⟨_, rfl⟩
    rw [hg] at hgd
    have HGD := Lib.hid hgd
    have HG := Lib.hid hg
    have HV3 := Lib.hid hV3
    have a0 := Lib.cell_of_heap hT3 0
    have a1 := Lib.cell_of_heap hT3 1
    have a2 := Lib.cell_of_heap hT3 2
    have a3 := Lib.cell_of_heap hT3 3
    clear HF hgd hg hV3 hC2 hb23 hb2
    go_wp2_with fail
    go_at_call 20
    refine HGD.out.mono ?_
    rintro e w4 ⟨rfl, hb4⟩
    have hB4 := hB3.trans (hb4.mono hB3.size)
    have hT4 := (hb4.block w2.heap.size (by have := HS3.out; omega)).trans hT3
    have hz4 : w2.heap.size < w4.heap.size := Nat.lt_of_lt_of_le (by have := HS3.out; omega) hb4.size
    have hV4 := HV3.out.below hb4
    have hL4 := hL.below hB4
    clear HGD HV3 HS3 hT3 hB3 hb4 hB2 hb1 hL1 hw3 a0 a1 a2 a3
    have a0 := Lib.cell_of_heap hT4 0
    have a1 := Lib.cell_of_heap hT4 1
    have a2 := Lib.cell_of_heap hT4 2
    have a3 := Lib.cell_of_heap hT4 3
    cases g with
    | false =>
      have htx := Text_calls 4000 ⟨4, s, 0, l⟩ _ [] w4 hL4 hV4 (fun h => by rw [HG.out] at h; cases h)
      rw [HG.out, if_neg (by decide)] at htx
      have HTX := Lib.hid htx
      clear htx
      go_wp2_with fail
      go_at_call 15
      refine HTX.out.mono ?_
      rintro e w5 ⟨rfl, hb5⟩
      have hB5 := hB4.trans (hb5.mono hB4.size)
      have hL5 := hL.below hB5
      go_wp2_with fail
      refine (wakes_calls _ hL5).mono ?_
      rintro e w6 ⟨rfl, hb6⟩
      go_wp2
      go_ret
      exact ⟨rfl, hB5.trans (hb6.mono hB5.size)⟩
    | true =>
      obtain ⟨rs, hp⟩ := RefW.parts_is s l HG.out HNE.out hs hnum hsz hnl
      have HP := Lib.hid hp
      clear hp hnum hsz hnl
      go_wp2_with fail
      go_at_call 21
      refine (A_calls _ _).mono ?_
      rintro e w5 ⟨rfl, hb5⟩
      have hB5 := hB4.trans (hb5.mono hB4.size)
      have hT5 := (hb5.block w2.heap.size hz4).trans hT4
      have hz5 := Nat.lt_of_lt_of_le hz4 hb5.size
      have hV5 := hV4.below hb5
      obtain ⟨w6, hw6⟩ : ∃ w6, w5.alloc (.cells #[.int .u8 3, .string ⟨#[91, 93]⟩, .int .i64 0, .slice none 0 0] 24) = w6 := ⟨_, rfl⟩
      have hb56 : Below w5.heap.size w5 w6 := by rw [← hw6]; exact (Below.refl _ _).alloc (Nat.le_refl _) _
      have hT6 : w6.heap[w5.heap.size]? = some (.cells #[.int .u8 3, .string ⟨#[91, 93]⟩, .int .i64 0, .slice none 0 0] 24 (0, 0)) := by rw [← hw6]; exact (MapKept.heap_alloc w5 _).1
      have hBX : BoxF w6 w5.heap.size (RefW.lstM []) := ⟨none, 0, hT6, Nat.le_refl _, Kd.F_nil _ _ _⟩
      have HW6 := Lib.hid hw6
      clear a0 a1 a2 a3 hT4 hV4 hL4 hB4 hb5 hz4 hw6
      go_wp2
      rw [HW6.out]
      go_loopw [7, 8] (fun v7 v8 wr => ∃ j : Nat, v8 = .int .i64 ((j : Int) - 1) ∧ j ≤ l.length ∧ v7 = .string ⟨(joinC (rs.drop j)).toArray⟩ ∧ Below w5.heap.size w6 wr ∧ BoxF wr w5.heap.size (RefW.lstM (l.drop j))) (fun _ v8 _ => (intOf v8 + 1).toNat)
      case atStart =>
        refine ⟨l.length, rfl, Nat.le_refl _, ?_, Below.refl _ _, by rw [List.drop_length]; exact hBX⟩
        rw [List.drop_of_length_le (Nat.le_of_eq HP.out.len)]
        rfl
      case round =>
        obtain ⟨j, rfl, hj, rfl, hbr, hbx⟩ := hrel
        have hbr5 : Below w5.heap.size w5 wr := hb56.trans hbr
        have hBr := hB5.trans (hbr5.mono hB5.size)
        rcases j with _ | i
        · have e1 : (((0 : Nat) : Int) - 1) = -1 := by omega
          obtain ⟨B, cb, hbox, hcb, hFB⟩ := hbx
          rw [List.drop_zero] at hbox hcb hFB
          rw [e1, List.drop_zero]
          have hT5r := (hbr5.block w2.heap.size hz5).trans hT5
          have HV5 := Lib.hid (hV5.below hbr5)
          have hVL : TermV wr (RefW.lstM l) (.agg #[.int .u8 (RefW.lstM l).f0, .string (RefW.lstM l).f1, .int .i64 (RefW.lstM l).f2, .slice B (RefW.lstM l).f3.length cb]) := ⟨B, cb, rfl, hcb, Kd.F_now hFB⟩
          have hin0 := HP.out.inn 0
          rw [List.drop_zero] at hin0
          obtain ⟨hn1, _⟩ := RefW.nameM_len3 s hs
          have hNm := fun W (hW : LaidW W) => write_Name.walk s W (by omega) hW
          have hstr := HP.out.str
          have hlst := HP.out.lst
          have hat := HP.out.atomT
          have hag := HP.out.atomG
          have hgl := fun W V (hV : TermV W (RefW.lstM l) V) => Good_calls (RefW.lstM l) V W hV
          have HTA : Hid (∀ W, LaidW W → Calls Tryd.prog 15 #[.agg #[.int .u8 3, .string s, .int .i64 0, .slice none 0 0]] W fun e w' => e = .returned (.string ⟨(nameM (bl s)).toArray⟩) ∧ Below W.heap.size W w') := fun W hW => by
            have := Text_calls 4000 ⟨3, s, 0, []⟩ _ (nameM (bl s)) W hW ⟨none, 0, rfl, Nat.le_refl _, C_nil _⟩ (fun _ => hat)
            rw [if_pos hag] at this
            exact this
          obtain ⟨J, hJ⟩ : ∃ J, joinC rs = J := ⟨_, rfl⟩
          obtain ⟨G, hG⟩ : ∃ G, goodM 64 (RefW.lstM l) = G := ⟨_, rfl⟩
          have HTL : Hid (G = true → ∀ W V, LaidW W → TermV W (RefW.lstM l) V → Calls Tryd.prog 15 #[V] W fun e w' => e = .returned (.string ((⟨#[91]⟩ ++ ⟨J.toArray⟩) ++ ⟨#[93]⟩)) ∧ Below W.heap.size W w') := fun hGt W V hW hV => by
            have := Text_calls 4000 (RefW.lstM l) V _ W hW hV (fun h => hlst h)
            rw [hG, if_pos hGt, hJ] at this
            rw [show ((⟨#[91]⟩ : ByteArray) ++ ⟨J.toArray⟩) ++ ⟨#[93]⟩ = ⟨(91 :: (J ++ [93])).toArray⟩ from by apply ByteArray.ext; simp [ByteArray.data_append]]
            exact this
          obtain ⟨NM, hNM⟩ : ∃ NM, nameM (bl s) = NM := ⟨_, rfl⟩
          have hTT : consB ⟨4, s, 0, l⟩ = false → ∀ W V, LaidW W → TermV W ⟨4, s, 0, l⟩ V → Calls Tryd.prog 15 #[V] W fun e w' => e = .returned (.string ⟨(RefW.nameS (bl s) ++ 40 :: (J ++ [41])).toArray⟩) ∧ Below W.heap.size W w' := fun hc W V hW hV => by
            have := Text_calls 4000 ⟨4, s, 0, l⟩ V _ W hW hV (fun _ => hstr hc)
            rw [HG.out, if_pos rfl, hJ] at this
            exact this
          have s91 := teq s [91, 93]
          have s46 := teq s [46]
          rw [hG] at hgl
          rw [hJ] at hin0 ⊢
          rw [hNM] at hNm hn1 HTA
          have T50 := Lib.hid (Lib.cell_of_heap hT5r 0)
          have T51 := Lib.hid (Lib.cell_of_heap hT5r 1)
          have T52 := Lib.hid (Lib.cell_of_heap hT5r 2)
          have T53 := Lib.hid (Lib.cell_of_heap hT5r 3)
          have T60 := Lib.hid (Lib.cell_of_heap hbox 0)
          have T61 := Lib.hid (Lib.cell_of_heap hbox 1)
          have T62 := Lib.hid (Lib.cell_of_heap hbox 2)
          have T63 := Lib.hid (Lib.cell_of_heap hbox 3)
          have HN := Lib.hid hNm
          have HVL := Lib.hid hVL
          have HGL := Lib.hid hgl
          have hcur : Below wr.heap.size wr wr := Below.refl _ _
          obtain ⟨X, hX⟩ : ∃ X, RefW.lstM l = X := ⟨_, rfl⟩
          rw [hX] at HTL HVL HGL T60 T61 T62 T63
          have HNM := Lib.hid hNM
          have HTT0 := Lib.hid hTT
          have HHS := Lib.hid hs
          have hcons : consB ⟨4, s, 0, l⟩ = (decide (bl s = [46]) && decide (l.length = 2)) := by
            unfold consB
            rw [show ((4 : Int) == 4) = true from rfl, Bool.true_and, Bool.eq_iff_iff]
            simp
          have HCONS := Lib.hid hcons
          clear hNm hVL hgl hstr hlst hat hag hX hG hJ hNM hTT hs hFB hcb hbox hT5r hcons e1
          have fin : ∀ w', Below wr.heap.size wr w' → Below w.heap.size w w' := fun w' h => hBr.trans (h.mono hBr.size)
          by_cases n91 : bl s = [91, 93]
          · have k91 : (s.toList == [91, 93]) = true := by rw [s91]; exact decide_eq_true n91
            have n46 : ¬ bl s = [46] := by rw [n91]; decide
            have k46 : (s.toList == [46]) = false := by rw [s46]; exact decide_eq_false n46
            have k46' : (s.toList != [46]) = true := by rw [bne, k46]; rfl
            have HTT : Hid (∀ W V, LaidW W → TermV W ⟨4, s, 0, l⟩ V → Calls Tryd.prog 15 #[V] W fun e w' => e = .returned (.string ((⟨#[39, 91, 93, 39, 40]⟩ ++ ⟨J.toArray⟩) ++ ⟨#[41]⟩)) ∧ Below W.heap.size W w') := fun W V hW hV => by
              have := HTT0.out (by rw [HCONS.out, decide_eq_false n46]; rfl) W V hW hV
              rw [show ((⟨#[39, 91, 93, 39, 40]⟩ : ByteArray) ++ ⟨J.toArray⟩) ++ ⟨#[41]⟩ = ⟨(RefW.nameS (bl s) ++ 40 :: (J ++ [41])).toArray⟩ from by
                rw [show RefW.nameS (bl s) = [39, 91, 93, 39] from by rw [n91]; decide]
                apply ByteArray.ext
                simp [ByteArray.data_append]]
              exact this
            clear n91 n46 s91 s46
            cases G with
            | true =>
              have HTLL := Lib.hid (HTL.out rfl)
              go_wp2_with (first
              | (go_at_call 17; refine (HN.out _ (hL.below (hBr.trans (hcur.mono hBr.size)))).mono ?_; rintro e w' ⟨rfl, hb'⟩; have hcur : Below wr.heap.size wr w' := hcur.trans (hb'.mono hcur.size)
                 have c50 := RefW.cell_later' T50.out hcur; have c51 := RefW.cell_later' T51.out hcur; have c52 := RefW.cell_later' T52.out hcur; have c53 := RefW.cell_later' T53.out hcur; have c60 := RefW.cell_later' T60.out hcur; have c61 := RefW.cell_later' T61.out hcur; have c62 := RefW.cell_later' T62.out hcur; have c63 := RefW.cell_later' T63.out hcur)
              | (go_at_call 15; first | refine (HTT.out _ _ (hL.below (hBr.trans (hcur.mono hBr.size))) (TermV.below HV5.out hcur)).mono ?_ | refine (HTLL.out _ _ (hL.below (hBr.trans (hcur.mono hBr.size))) (TermV.below HVL.out hcur)).mono ?_ | refine (HTA.out _ (hL.below (hBr.trans (hcur.mono hBr.size)))).mono ?_
                 rintro e w' ⟨rfl, hb'⟩; have hcur : Below wr.heap.size wr w' := hcur.trans (hb'.mono hcur.size)
                 have c50 := RefW.cell_later' T50.out hcur; have c51 := RefW.cell_later' T51.out hcur; have c52 := RefW.cell_later' T52.out hcur; have c53 := RefW.cell_later' T53.out hcur; have c60 := RefW.cell_later' T60.out hcur; have c61 := RefW.cell_later' T61.out hcur; have c62 := RefW.cell_later' T62.out hcur; have c63 := RefW.cell_later' T63.out hcur)
              | (go_at_call 20; refine (HGL.out _ _ (TermV.below HVL.out hcur)).mono ?_; rintro e w' ⟨rfl, hb'⟩; have hcur : Below wr.heap.size wr w' := hcur.trans (hb'.mono hcur.size)
                 have c50 := RefW.cell_later' T50.out hcur; have c51 := RefW.cell_later' T51.out hcur; have c52 := RefW.cell_later' T52.out hcur; have c53 := RefW.cell_later' T53.out hcur; have c60 := RefW.cell_later' T60.out hcur; have c61 := RefW.cell_later' T61.out hcur; have c62 := RefW.cell_later' T62.out hcur; have c63 := RefW.cell_later' T63.out hcur)
              | (go_at_call 21; refine (A_calls _ _).mono ?_; rintro e w' ⟨rfl, hb'⟩; have hcur : Below wr.heap.size wr w' := hcur.trans (hb'.mono hcur.size))
              | (go_at_call 14; refine (wakes_calls _ (hL.below (hBr.trans (hcur.mono hBr.size)))).mono ?_; rintro e w' ⟨rfl, hb'⟩; have hcur : Below wr.heap.size wr w' := hcur.trans (hb'.mono hcur.size)))
              go_ret
              exact ⟨rfl, fin _ hcur⟩
            | false =>
              go_wp2_with (first
              | (go_at_call 17; refine (HN.out _ (hL.below (hBr.trans (hcur.mono hBr.size)))).mono ?_; rintro e w' ⟨rfl, hb'⟩; have hcur : Below wr.heap.size wr w' := hcur.trans (hb'.mono hcur.size)
                 have c50 := RefW.cell_later' T50.out hcur; have c51 := RefW.cell_later' T51.out hcur; have c52 := RefW.cell_later' T52.out hcur; have c53 := RefW.cell_later' T53.out hcur; have c60 := RefW.cell_later' T60.out hcur; have c61 := RefW.cell_later' T61.out hcur; have c62 := RefW.cell_later' T62.out hcur; have c63 := RefW.cell_later' T63.out hcur)
              | (go_at_call 15; first | refine (HTT.out _ _ (hL.below (hBr.trans (hcur.mono hBr.size))) (TermV.below HV5.out hcur)).mono ?_ | refine (HTLL.out _ _ (hL.below (hBr.trans (hcur.mono hBr.size))) (TermV.below HVL.out hcur)).mono ?_ | refine (HTA.out _ (hL.below (hBr.trans (hcur.mono hBr.size)))).mono ?_
                 rintro e w' ⟨rfl, hb'⟩; have hcur : Below wr.heap.size wr w' := hcur.trans (hb'.mono hcur.size)
                 have c50 := RefW.cell_later' T50.out hcur; have c51 := RefW.cell_later' T51.out hcur; have c52 := RefW.cell_later' T52.out hcur; have c53 := RefW.cell_later' T53.out hcur; have c60 := RefW.cell_later' T60.out hcur; have c61 := RefW.cell_later' T61.out hcur; have c62 := RefW.cell_later' T62.out hcur; have c63 := RefW.cell_later' T63.out hcur)
              | (go_at_call 20; refine (HGL.out _ _ (TermV.below HVL.out hcur)).mono ?_; rintro e w' ⟨rfl, hb'⟩; have hcur : Below wr.heap.size wr w' := hcur.trans (hb'.mono hcur.size)
                 have c50 := RefW.cell_later' T50.out hcur; have c51 := RefW.cell_later' T51.out hcur; have c52 := RefW.cell_later' T52.out hcur; have c53 := RefW.cell_later' T53.out hcur; have c60 := RefW.cell_later' T60.out hcur; have c61 := RefW.cell_later' T61.out hcur; have c62 := RefW.cell_later' T62.out hcur; have c63 := RefW.cell_later' T63.out hcur)
              | (go_at_call 21; refine (A_calls _ _).mono ?_; rintro e w' ⟨rfl, hb'⟩; have hcur : Below wr.heap.size wr w' := hcur.trans (hb'.mono hcur.size))
              | (go_at_call 14; refine (wakes_calls _ (hL.below (hBr.trans (hcur.mono hBr.size)))).mono ?_; rintro e w' ⟨rfl, hb'⟩; have hcur : Below wr.heap.size wr w' := hcur.trans (hb'.mono hcur.size)))
              go_ret
              exact ⟨rfl, fin _ hcur⟩
          · have k91 : (s.toList == [91, 93]) = false := by rw [s91]; exact decide_eq_false n91
            by_cases hcc : (bl s = [46]) ∧ l.length = 2
            · have k46 : (s.toList == [46]) = true := by rw [s46]; exact decide_eq_true hcc.1
              have k46' : (s.toList != [46]) = false := by rw [bne, k46]; rfl
              have k2 : ((l.length : Int) != 2) = false := by rw [hcc.2]; rfl
              have HTT := HTT0
              clear n91 s91 s46 hcc
              cases G with
              | true =>
                have HTLL := Lib.hid (HTL.out rfl)
                go_wp2_with (first
              | (go_at_call 17; refine (HN.out _ (hL.below (hBr.trans (hcur.mono hBr.size)))).mono ?_; rintro e w' ⟨rfl, hb'⟩; have hcur : Below wr.heap.size wr w' := hcur.trans (hb'.mono hcur.size)
                 have c50 := RefW.cell_later' T50.out hcur; have c51 := RefW.cell_later' T51.out hcur; have c52 := RefW.cell_later' T52.out hcur; have c53 := RefW.cell_later' T53.out hcur; have c60 := RefW.cell_later' T60.out hcur; have c61 := RefW.cell_later' T61.out hcur; have c62 := RefW.cell_later' T62.out hcur; have c63 := RefW.cell_later' T63.out hcur)
              | (go_at_call 15; first | refine (HTT.out _ _ (hL.below (hBr.trans (hcur.mono hBr.size))) (TermV.below HV5.out hcur)).mono ?_ | refine (HTLL.out _ _ (hL.below (hBr.trans (hcur.mono hBr.size))) (TermV.below HVL.out hcur)).mono ?_ | refine (HTA.out _ (hL.below (hBr.trans (hcur.mono hBr.size)))).mono ?_
                 rintro e w' ⟨rfl, hb'⟩; have hcur : Below wr.heap.size wr w' := hcur.trans (hb'.mono hcur.size)
                 have c50 := RefW.cell_later' T50.out hcur; have c51 := RefW.cell_later' T51.out hcur; have c52 := RefW.cell_later' T52.out hcur; have c53 := RefW.cell_later' T53.out hcur; have c60 := RefW.cell_later' T60.out hcur; have c61 := RefW.cell_later' T61.out hcur; have c62 := RefW.cell_later' T62.out hcur; have c63 := RefW.cell_later' T63.out hcur)
              | (go_at_call 20; refine (HGL.out _ _ (TermV.below HVL.out hcur)).mono ?_; rintro e w' ⟨rfl, hb'⟩; have hcur : Below wr.heap.size wr w' := hcur.trans (hb'.mono hcur.size)
                 have c50 := RefW.cell_later' T50.out hcur; have c51 := RefW.cell_later' T51.out hcur; have c52 := RefW.cell_later' T52.out hcur; have c53 := RefW.cell_later' T53.out hcur; have c60 := RefW.cell_later' T60.out hcur; have c61 := RefW.cell_later' T61.out hcur; have c62 := RefW.cell_later' T62.out hcur; have c63 := RefW.cell_later' T63.out hcur)
              | (go_at_call 21; refine (A_calls _ _).mono ?_; rintro e w' ⟨rfl, hb'⟩; have hcur : Below wr.heap.size wr w' := hcur.trans (hb'.mono hcur.size))
              | (go_at_call 14; refine (wakes_calls _ (hL.below (hBr.trans (hcur.mono hBr.size)))).mono ?_; rintro e w' ⟨rfl, hb'⟩; have hcur : Below wr.heap.size wr w' := hcur.trans (hb'.mono hcur.size)))
                go_ret
                exact ⟨rfl, fin _ hcur⟩
              | false =>
                go_wp2_with (first
              | (go_at_call 17; refine (HN.out _ (hL.below (hBr.trans (hcur.mono hBr.size)))).mono ?_; rintro e w' ⟨rfl, hb'⟩; have hcur : Below wr.heap.size wr w' := hcur.trans (hb'.mono hcur.size)
                 have c50 := RefW.cell_later' T50.out hcur; have c51 := RefW.cell_later' T51.out hcur; have c52 := RefW.cell_later' T52.out hcur; have c53 := RefW.cell_later' T53.out hcur; have c60 := RefW.cell_later' T60.out hcur; have c61 := RefW.cell_later' T61.out hcur; have c62 := RefW.cell_later' T62.out hcur; have c63 := RefW.cell_later' T63.out hcur)
              | (go_at_call 15; first | refine (HTT.out _ _ (hL.below (hBr.trans (hcur.mono hBr.size))) (TermV.below HV5.out hcur)).mono ?_ | refine (HTLL.out _ _ (hL.below (hBr.trans (hcur.mono hBr.size))) (TermV.below HVL.out hcur)).mono ?_ | refine (HTA.out _ (hL.below (hBr.trans (hcur.mono hBr.size)))).mono ?_
                 rintro e w' ⟨rfl, hb'⟩; have hcur : Below wr.heap.size wr w' := hcur.trans (hb'.mono hcur.size)
                 have c50 := RefW.cell_later' T50.out hcur; have c51 := RefW.cell_later' T51.out hcur; have c52 := RefW.cell_later' T52.out hcur; have c53 := RefW.cell_later' T53.out hcur; have c60 := RefW.cell_later' T60.out hcur; have c61 := RefW.cell_later' T61.out hcur; have c62 := RefW.cell_later' T62.out hcur; have c63 := RefW.cell_later' T63.out hcur)
              | (go_at_call 20; refine (HGL.out _ _ (TermV.below HVL.out hcur)).mono ?_; rintro e w' ⟨rfl, hb'⟩; have hcur : Below wr.heap.size wr w' := hcur.trans (hb'.mono hcur.size)
                 have c50 := RefW.cell_later' T50.out hcur; have c51 := RefW.cell_later' T51.out hcur; have c52 := RefW.cell_later' T52.out hcur; have c53 := RefW.cell_later' T53.out hcur; have c60 := RefW.cell_later' T60.out hcur; have c61 := RefW.cell_later' T61.out hcur; have c62 := RefW.cell_later' T62.out hcur; have c63 := RefW.cell_later' T63.out hcur)
              | (go_at_call 21; refine (A_calls _ _).mono ?_; rintro e w' ⟨rfl, hb'⟩; have hcur : Below wr.heap.size wr w' := hcur.trans (hb'.mono hcur.size))
              | (go_at_call 14; refine (wakes_calls _ (hL.below (hBr.trans (hcur.mono hBr.size)))).mono ?_; rintro e w' ⟨rfl, hb'⟩; have hcur : Below wr.heap.size wr w' := hcur.trans (hb'.mono hcur.size)))
                go_ret
                exact ⟨rfl, fin _ hcur⟩
            · have HTT : Hid (∀ W V, LaidW W → TermV W ⟨4, s, 0, l⟩ V → Calls Tryd.prog 15 #[V] W fun e w' => e = .returned (.string (((⟨NM.toArray⟩ ++ ⟨#[40]⟩) ++ ⟨J.toArray⟩) ++ ⟨#[41]⟩)) ∧ Below W.heap.size W w') := fun W V hW hV => by
                have := HTT0.out (by
                  rw [HCONS.out]
                  by_cases q : bl s = [46]
                  · rw [decide_eq_false (fun h => hcc ⟨q, h⟩), Bool.and_false]
                  · rw [decide_eq_false q, Bool.false_and]) W V hW hV
                rw [show (⟨#[41]⟩ : ByteArray) = ⟨[41].toArray⟩ from rfl, app4, ← HNM.out]
                rw [show RefW.nameS (bl s) = nameM (bl s) from if_neg n91] at this
                exact this
              by_cases q : bl s = [46]
              · have k46 : (s.toList == [46]) = true := by rw [s46]; exact decide_eq_true q
                have k46' : (s.toList != [46]) = false := by rw [bne, k46]; rfl
                have k2 : ((l.length : Int) != 2) = true := by
                  simp
                  exact fun h => hcc ⟨q, by omega⟩
                clear n91 s91 s46 hcc q
                cases G with
                | true =>
                  have HTLL := Lib.hid (HTL.out rfl)
                  go_wp2_with (first
              | (go_at_call 17; refine (HN.out _ (hL.below (hBr.trans (hcur.mono hBr.size)))).mono ?_; rintro e w' ⟨rfl, hb'⟩; have hcur : Below wr.heap.size wr w' := hcur.trans (hb'.mono hcur.size)
                 have c50 := RefW.cell_later' T50.out hcur; have c51 := RefW.cell_later' T51.out hcur; have c52 := RefW.cell_later' T52.out hcur; have c53 := RefW.cell_later' T53.out hcur; have c60 := RefW.cell_later' T60.out hcur; have c61 := RefW.cell_later' T61.out hcur; have c62 := RefW.cell_later' T62.out hcur; have c63 := RefW.cell_later' T63.out hcur)
              | (go_at_call 15; first | refine (HTT.out _ _ (hL.below (hBr.trans (hcur.mono hBr.size))) (TermV.below HV5.out hcur)).mono ?_ | refine (HTLL.out _ _ (hL.below (hBr.trans (hcur.mono hBr.size))) (TermV.below HVL.out hcur)).mono ?_ | refine (HTA.out _ (hL.below (hBr.trans (hcur.mono hBr.size)))).mono ?_
                 rintro e w' ⟨rfl, hb'⟩; have hcur : Below wr.heap.size wr w' := hcur.trans (hb'.mono hcur.size)
                 have c50 := RefW.cell_later' T50.out hcur; have c51 := RefW.cell_later' T51.out hcur; have c52 := RefW.cell_later' T52.out hcur; have c53 := RefW.cell_later' T53.out hcur; have c60 := RefW.cell_later' T60.out hcur; have c61 := RefW.cell_later' T61.out hcur; have c62 := RefW.cell_later' T62.out hcur; have c63 := RefW.cell_later' T63.out hcur)
              | (go_at_call 20; refine (HGL.out _ _ (TermV.below HVL.out hcur)).mono ?_; rintro e w' ⟨rfl, hb'⟩; have hcur : Below wr.heap.size wr w' := hcur.trans (hb'.mono hcur.size)
                 have c50 := RefW.cell_later' T50.out hcur; have c51 := RefW.cell_later' T51.out hcur; have c52 := RefW.cell_later' T52.out hcur; have c53 := RefW.cell_later' T53.out hcur; have c60 := RefW.cell_later' T60.out hcur; have c61 := RefW.cell_later' T61.out hcur; have c62 := RefW.cell_later' T62.out hcur; have c63 := RefW.cell_later' T63.out hcur)
              | (go_at_call 21; refine (A_calls _ _).mono ?_; rintro e w' ⟨rfl, hb'⟩; have hcur : Below wr.heap.size wr w' := hcur.trans (hb'.mono hcur.size))
              | (go_at_call 14; refine (wakes_calls _ (hL.below (hBr.trans (hcur.mono hBr.size)))).mono ?_; rintro e w' ⟨rfl, hb'⟩; have hcur : Below wr.heap.size wr w' := hcur.trans (hb'.mono hcur.size)))
                  go_ret
                  exact ⟨rfl, fin _ hcur⟩
                | false =>
                  go_wp2_with (first
              | (go_at_call 17; refine (HN.out _ (hL.below (hBr.trans (hcur.mono hBr.size)))).mono ?_; rintro e w' ⟨rfl, hb'⟩; have hcur : Below wr.heap.size wr w' := hcur.trans (hb'.mono hcur.size)
                 have c50 := RefW.cell_later' T50.out hcur; have c51 := RefW.cell_later' T51.out hcur; have c52 := RefW.cell_later' T52.out hcur; have c53 := RefW.cell_later' T53.out hcur; have c60 := RefW.cell_later' T60.out hcur; have c61 := RefW.cell_later' T61.out hcur; have c62 := RefW.cell_later' T62.out hcur; have c63 := RefW.cell_later' T63.out hcur)
              | (go_at_call 15; first | refine (HTT.out _ _ (hL.below (hBr.trans (hcur.mono hBr.size))) (TermV.below HV5.out hcur)).mono ?_ | refine (HTLL.out _ _ (hL.below (hBr.trans (hcur.mono hBr.size))) (TermV.below HVL.out hcur)).mono ?_ | refine (HTA.out _ (hL.below (hBr.trans (hcur.mono hBr.size)))).mono ?_
                 rintro e w' ⟨rfl, hb'⟩; have hcur : Below wr.heap.size wr w' := hcur.trans (hb'.mono hcur.size)
                 have c50 := RefW.cell_later' T50.out hcur; have c51 := RefW.cell_later' T51.out hcur; have c52 := RefW.cell_later' T52.out hcur; have c53 := RefW.cell_later' T53.out hcur; have c60 := RefW.cell_later' T60.out hcur; have c61 := RefW.cell_later' T61.out hcur; have c62 := RefW.cell_later' T62.out hcur; have c63 := RefW.cell_later' T63.out hcur)
              | (go_at_call 20; refine (HGL.out _ _ (TermV.below HVL.out hcur)).mono ?_; rintro e w' ⟨rfl, hb'⟩; have hcur : Below wr.heap.size wr w' := hcur.trans (hb'.mono hcur.size)
                 have c50 := RefW.cell_later' T50.out hcur; have c51 := RefW.cell_later' T51.out hcur; have c52 := RefW.cell_later' T52.out hcur; have c53 := RefW.cell_later' T53.out hcur; have c60 := RefW.cell_later' T60.out hcur; have c61 := RefW.cell_later' T61.out hcur; have c62 := RefW.cell_later' T62.out hcur; have c63 := RefW.cell_later' T63.out hcur)
              | (go_at_call 21; refine (A_calls _ _).mono ?_; rintro e w' ⟨rfl, hb'⟩; have hcur : Below wr.heap.size wr w' := hcur.trans (hb'.mono hcur.size))
              | (go_at_call 14; refine (wakes_calls _ (hL.below (hBr.trans (hcur.mono hBr.size)))).mono ?_; rintro e w' ⟨rfl, hb'⟩; have hcur : Below wr.heap.size wr w' := hcur.trans (hb'.mono hcur.size)))
                  go_ret
                  exact ⟨rfl, fin _ hcur⟩
              · have k46 : (s.toList == [46]) = false := by rw [s46]; exact decide_eq_false q
                have k46' : (s.toList != [46]) = true := by rw [bne, k46]; rfl
                clear n91 s91 s46 hcc q
                cases G with
                | true =>
                  have HTLL := Lib.hid (HTL.out rfl)
                  go_wp2_with (first
              | (go_at_call 17; refine (HN.out _ (hL.below (hBr.trans (hcur.mono hBr.size)))).mono ?_; rintro e w' ⟨rfl, hb'⟩; have hcur : Below wr.heap.size wr w' := hcur.trans (hb'.mono hcur.size)
                 have c50 := RefW.cell_later' T50.out hcur; have c51 := RefW.cell_later' T51.out hcur; have c52 := RefW.cell_later' T52.out hcur; have c53 := RefW.cell_later' T53.out hcur; have c60 := RefW.cell_later' T60.out hcur; have c61 := RefW.cell_later' T61.out hcur; have c62 := RefW.cell_later' T62.out hcur; have c63 := RefW.cell_later' T63.out hcur)
              | (go_at_call 15; first | refine (HTT.out _ _ (hL.below (hBr.trans (hcur.mono hBr.size))) (TermV.below HV5.out hcur)).mono ?_ | refine (HTLL.out _ _ (hL.below (hBr.trans (hcur.mono hBr.size))) (TermV.below HVL.out hcur)).mono ?_ | refine (HTA.out _ (hL.below (hBr.trans (hcur.mono hBr.size)))).mono ?_
                 rintro e w' ⟨rfl, hb'⟩; have hcur : Below wr.heap.size wr w' := hcur.trans (hb'.mono hcur.size)
                 have c50 := RefW.cell_later' T50.out hcur; have c51 := RefW.cell_later' T51.out hcur; have c52 := RefW.cell_later' T52.out hcur; have c53 := RefW.cell_later' T53.out hcur; have c60 := RefW.cell_later' T60.out hcur; have c61 := RefW.cell_later' T61.out hcur; have c62 := RefW.cell_later' T62.out hcur; have c63 := RefW.cell_later' T63.out hcur)
              | (go_at_call 20; refine (HGL.out _ _ (TermV.below HVL.out hcur)).mono ?_; rintro e w' ⟨rfl, hb'⟩; have hcur : Below wr.heap.size wr w' := hcur.trans (hb'.mono hcur.size)
                 have c50 := RefW.cell_later' T50.out hcur; have c51 := RefW.cell_later' T51.out hcur; have c52 := RefW.cell_later' T52.out hcur; have c53 := RefW.cell_later' T53.out hcur; have c60 := RefW.cell_later' T60.out hcur; have c61 := RefW.cell_later' T61.out hcur; have c62 := RefW.cell_later' T62.out hcur; have c63 := RefW.cell_later' T63.out hcur)
              | (go_at_call 21; refine (A_calls _ _).mono ?_; rintro e w' ⟨rfl, hb'⟩; have hcur : Below wr.heap.size wr w' := hcur.trans (hb'.mono hcur.size))
              | (go_at_call 14; refine (wakes_calls _ (hL.below (hBr.trans (hcur.mono hBr.size)))).mono ?_; rintro e w' ⟨rfl, hb'⟩; have hcur : Below wr.heap.size wr w' := hcur.trans (hb'.mono hcur.size)))
                  go_ret
                  exact ⟨rfl, fin _ hcur⟩
                | false =>
                  go_wp2_with (first
              | (go_at_call 17; refine (HN.out _ (hL.below (hBr.trans (hcur.mono hBr.size)))).mono ?_; rintro e w' ⟨rfl, hb'⟩; have hcur : Below wr.heap.size wr w' := hcur.trans (hb'.mono hcur.size)
                 have c50 := RefW.cell_later' T50.out hcur; have c51 := RefW.cell_later' T51.out hcur; have c52 := RefW.cell_later' T52.out hcur; have c53 := RefW.cell_later' T53.out hcur; have c60 := RefW.cell_later' T60.out hcur; have c61 := RefW.cell_later' T61.out hcur; have c62 := RefW.cell_later' T62.out hcur; have c63 := RefW.cell_later' T63.out hcur)
              | (go_at_call 15; first | refine (HTT.out _ _ (hL.below (hBr.trans (hcur.mono hBr.size))) (TermV.below HV5.out hcur)).mono ?_ | refine (HTLL.out _ _ (hL.below (hBr.trans (hcur.mono hBr.size))) (TermV.below HVL.out hcur)).mono ?_ | refine (HTA.out _ (hL.below (hBr.trans (hcur.mono hBr.size)))).mono ?_
                 rintro e w' ⟨rfl, hb'⟩; have hcur : Below wr.heap.size wr w' := hcur.trans (hb'.mono hcur.size)
                 have c50 := RefW.cell_later' T50.out hcur; have c51 := RefW.cell_later' T51.out hcur; have c52 := RefW.cell_later' T52.out hcur; have c53 := RefW.cell_later' T53.out hcur; have c60 := RefW.cell_later' T60.out hcur; have c61 := RefW.cell_later' T61.out hcur; have c62 := RefW.cell_later' T62.out hcur; have c63 := RefW.cell_later' T63.out hcur)
              | (go_at_call 20; refine (HGL.out _ _ (TermV.below HVL.out hcur)).mono ?_; rintro e w' ⟨rfl, hb'⟩; have hcur : Below wr.heap.size wr w' := hcur.trans (hb'.mono hcur.size)
                 have c50 := RefW.cell_later' T50.out hcur; have c51 := RefW.cell_later' T51.out hcur; have c52 := RefW.cell_later' T52.out hcur; have c53 := RefW.cell_later' T53.out hcur; have c60 := RefW.cell_later' T60.out hcur; have c61 := RefW.cell_later' T61.out hcur; have c62 := RefW.cell_later' T62.out hcur; have c63 := RefW.cell_later' T63.out hcur)
              | (go_at_call 21; refine (A_calls _ _).mono ?_; rintro e w' ⟨rfl, hb'⟩; have hcur : Below wr.heap.size wr w' := hcur.trans (hb'.mono hcur.size))
              | (go_at_call 14; refine (wakes_calls _ (hL.below (hBr.trans (hcur.mono hBr.size)))).mono ?_; rintro e w' ⟨rfl, hb'⟩; have hcur : Below wr.heap.size wr w' := hcur.trans (hb'.mono hcur.size)))
                  go_ret
                  exact ⟨rfl, fin _ hcur⟩
        · have e1 : (((i + 1 : Nat) : Int) - 1) = (i : Int) := by omega
          have hi : i < l.length := hj
          have hge : decide ((i : Int) ≥ 0) = true := decide_eq_true (by omega)
          have hir : i < rs.length := by rw [HP.out.len]; exact hi
          obtain ⟨ad, A3, c3, rfl, e0, e10, e2, e3, hc3, hC3⟩ := at_T24 hC i (by omega) (by omega)
          rw [rd_at l i hi] at e0 e10 e2 e3 hc3 hC3
          rw [Int.toNat_natCast] at e0 e10 e2 e3
          obtain ⟨B, cb, hbox, hcb, hFB⟩ := hbx
          rw [e1]
          have d0 := RefW.cell_later' e0 hBr
          have d1 := RefW.cell_later' e10 hBr
          have d2 := RefW.cell_later' e2 hBr
          have d3 := RefW.cell_later' e3 hBr
          have b0 := Lib.cell_of_heap hbox 0
          have b1 := Lib.cell_of_heap hbox 1
          have b2 := Lib.cell_of_heap hbox 2
          have b3 := Lib.cell_of_heap hbox 3
          have HE0 := Lib.hid e0
          have HE1 := Lib.hid e10
          have HE2 := Lib.hid e2
          have HE3 := Lib.hid e3
          clear e0 e10 e2 e3
          go_wp2_with fail
          go_still_tail 5, (by kernel_rfl)
          have hdr : Below wr.heap.size wr wr.drew := (Below.refl _ wr).drew
          obtain ⟨W0, hW0⟩ : ∃ W0, wr.drew = W0 := ⟨_, rfl⟩
          change wpList _ _ _ _ _ wr.drew
          rw [hW0] at hdr ⊢
          have hgl : w5.heap.size < wr.heap.size := by
            have h1 := (Array.getElem?_eq_some_iff.1 hbox).1
            exact h1
          have hlt0 : Below wr.heap.size wr (W0.alloc (.cells (cellsOf [(l[i], A3, c3), (RefW.lstM (l.drop (i + 1)), B, cb)]).toArray 24)) := hdr.alloc hdr.size _
          have hFl : Kd.F k24 W0 (fun k => k ≠ w5.heap.size) A3 l[i].f3.length l[i].f3 := Kd.F_mono (Kd.F_step (Kd.C_F heap24 hC3) (fun k hk _ => (hBr.trans (hdr.mono hBr.size)).block k hk)) (fun k hk e => by have := hB5.size; omega)
          have hFx : Kd.F k24 W0 (fun k => k ≠ w5.heap.size) B (RefW.lstM (l.drop (i + 1))).f3.length (RefW.lstM (l.drop (i + 1))).f3 := Kd.F_below hFB hdr
          have hlit := lit_F W0 (fun k => k ≠ w5.heap.size) [(l[i], A3, c3), (RefW.lstM (l.drop (i + 1)), B, cb)] (by simp) (by intro p hp; simp at hp; rcases hp with rfl | rfl; exact ⟨hc3, hFl⟩; exact ⟨hcb, hFx⟩)
          have hFC := F_F ⟨#[46]⟩ (some ⟨W0.heap.size, 0, none⟩) 2 [l[i], RefW.lstM (l.drop (i + 1))] _ _ hlit (by simp)
          have hdrop : RefW.lstM (l.drop i) = ⟨4, ⟨#[46]⟩, 0, [l[i], RefW.lstM (l.drop (i + 1))]⟩ := by
            rw [List.drop_eq_getElem_cons hi]
            rfl
          have hstep := RefW.inn_step rs i hir
          have hin1 := HP.out.inn (i + 1)
          have hin0 := HP.out.inn i
          obtain ⟨ha1, ha2⟩ := HP.out.arg i hi hir
          obtain ⟨X, hX⟩ : ∃ X, RefW.lstM (l.drop (i + 1)) = X := ⟨_, rfl⟩
          obtain ⟨J, hJ⟩ : ∃ J, joinC (rs.drop (i + 1)) = J := ⟨_, rfl⟩
          obtain ⟨J0, hJ0⟩ : ∃ J0, joinC (rs.drop i) = J0 := ⟨_, rfl⟩
          obtain ⟨R, hR⟩ : ∃ R, rs[i] = R := ⟨_, rfl⟩
          rw [hX] at hFC hdrop hbox hlt0
          rw [hJ, hJ0, hR] at hstep
          rw [hJ] at hin1
          rw [hJ0] at hin0
          rw [hR] at ha1
          rw [hX] at b0 b1 b2 b3 ⊢
          rw [hJ]
          have hRl : R.length ≤ 1000000 := by
            rw [hstep, List.length_append] at hin0
            omega
          have hmk : mkF ⟨#[46]⟩ [l[i], X] = ⟨4, ⟨#[46]⟩, 0, [l[i], X]⟩ := rfl
          rw [hmk] at hFC
          have HFC := Lib.hid hFC
          have HDROP := Lib.hid hdrop
          have HSTEP := Lib.hid hstep
          have HJ0 := Lib.hid hJ0
          have HC3 := Lib.hid hC3
          have HA1 := Lib.hid ha1
          have HA2 := Lib.hid ha2
          clear hmk hFC hdrop hstep hJ0 hC3 ha1 ha2 hX hJ hR hW0 hFl hFx hlit hFB e1 hin0 b0 b1 b2 b3 d0 d1 d2 d3
          have k3c : i + 1 < l.length ∨ ¬ i + 1 < l.length := Decidable.em _
          rcases k3c with k3c | k3c
          · have k3 : decide ((i : Int) < (l.length : Int) - 1) = true := decide_eq_true (by omega)
            have hst : Hid (J0 = R ++ (44 :: J)) := by have := HSTEP.out; rw [if_pos (by rw [HP.out.len]; exact k3c)] at this; exact this
            go_wp2_with (first
              | (go_at_call 19
                 refine HFC.out.mono ?_
                 rintro e w7 ⟨⟨v7, rfl, A7, c7, rfl, hc7, hF7⟩, hb7⟩
                 have h07 : Below wr.heap.size wr w7 := hlt0.trans (hb7.mono hlt0.size)
                 have hbox7 := (h07.block w5.heap.size hgl).trans hbox
                 obtain ⟨w8, hw8⟩ : ∃ w8, (((w7.setCell ⟨w5.heap.size, 0, none⟩ (.int .u8 4)).setCell ⟨w5.heap.size, 1, none⟩ (.string ⟨#[46]⟩)).setCell ⟨w5.heap.size, 2, none⟩ (.int .i64 0)).setCell ⟨w5.heap.size, 3, none⟩ (.slice A7 2 c7) = w8 := ⟨_, rfl⟩
                 have hrow := setRow4 hbox7 (.int .u8 4) (.string ⟨#[46]⟩) (.int .i64 0) (.slice A7 2 c7)
                 rw [hw8] at hrow
                 have hbr8 : Below w5.heap.size w6 w8 := by
                   rw [← hw8]
                   exact ((((hbr.trans (h07.mono hbr5.size)).setCell (Nat.le_refl _) _).setCell (Nat.le_refl _) _).setCell (Nat.le_refl _) _).setCell (Nat.le_refl _) _
                 have hB8 : Below w.heap.size w w8 := hB5.trans ((hb56.trans hbr8).mono hB5.size)
                 have hbox8 : ∀ W, Below w8.heap.size w8 W → BoxF W w5.heap.size (RefW.lstM (l.drop i)) := fun W hW => by
                   rw [HDROP.out]
                   have hlt := (Array.getElem?_eq_some_iff.1 hrow.1).1
                   refine ⟨A7, c7, (hW.block w5.heap.size hlt).trans hrow.1, hc7, Kd.F_below (Kd.F_step (Kd.F_mono hF7 ?_) (fun k hk _ => hrow.2 k hk)) hW⟩
                   intro k hk e
                   rcases hk with ⟨h1, _⟩ | h1
                   · rcases h1 with ⟨h1, _⟩ | h1
                     · exact h1 e
                     · have := hdr.size; omega
                   · have := hlt0.size; omega
                 have hf : ∀ j, w7.frozen? ⟨w5.heap.size, j, none⟩ = false := fun j => Lib.frozen_of_heap hbox7 j
                 have f0 := hf 0
                 have f1 := hf 1
                 have f2 := hf 2
                 have f3 := hf 3
                 have b0 := Lib.cell_of_heap hbox7 0
                 have b1 := Lib.cell_of_heap hbox7 1
                 have b2 := Lib.cell_of_heap hbox7 2
                 have b3 := Lib.cell_of_heap hbox7 3
                 have d0 := RefW.cell_later' HE0.out hB8
                 have d1 := RefW.cell_later' HE1.out hB8
                 have d2 := RefW.cell_later' HE2.out hB8
                 have d3 := RefW.cell_later' HE3.out hB8
                 have htx := Text_calls 3999 l[i] _ R w8 (hL.below hB8) ⟨A3, c3, rfl, hc3, Kd.C_below HC3.out hB8⟩ (fun _ => HA1.out)
                 rw [if_pos HA2.out] at htx
                 have HTX := Lib.hid htx
                 have HROW := Lib.hid hrow
                 have HF7 := Lib.hid hF7
                 clear htx hf hrow hF7)
              | (go_at_call 15
                 refine HTX.out.mono ?_
                 rintro e w9 ⟨rfl, hb9⟩))
            refine ⟨⟨i, rfl, by omega, ?_, hbr8.trans (hb9.mono (hb56.trans hbr8).size), ?_⟩, by simp [intOf]⟩
            · rw [HJ0.out, hst.out, ← app_str2, show (44 :: J : List UInt8) = [44] ++ J from rfl, ← app_str2]
            · exact hbox8 w9 hb9
          · have k3 : decide ((i : Int) < (l.length : Int) - 1) = false := decide_eq_false (by omega)
            have hst : Hid (J0 = R ++ J) := by have := HSTEP.out; rw [if_neg (by rw [HP.out.len]; exact k3c)] at this; exact this
            go_wp2_with (first
              | (go_at_call 19
                 refine HFC.out.mono ?_
                 rintro e w7 ⟨⟨v7, rfl, A7, c7, rfl, hc7, hF7⟩, hb7⟩
                 have h07 : Below wr.heap.size wr w7 := hlt0.trans (hb7.mono hlt0.size)
                 have hbox7 := (h07.block w5.heap.size hgl).trans hbox
                 obtain ⟨w8, hw8⟩ : ∃ w8, (((w7.setCell ⟨w5.heap.size, 0, none⟩ (.int .u8 4)).setCell ⟨w5.heap.size, 1, none⟩ (.string ⟨#[46]⟩)).setCell ⟨w5.heap.size, 2, none⟩ (.int .i64 0)).setCell ⟨w5.heap.size, 3, none⟩ (.slice A7 2 c7) = w8 := ⟨_, rfl⟩
                 have hrow := setRow4 hbox7 (.int .u8 4) (.string ⟨#[46]⟩) (.int .i64 0) (.slice A7 2 c7)
                 rw [hw8] at hrow
                 have hbr8 : Below w5.heap.size w6 w8 := by
                   rw [← hw8]
                   exact ((((hbr.trans (h07.mono hbr5.size)).setCell (Nat.le_refl _) _).setCell (Nat.le_refl _) _).setCell (Nat.le_refl _) _).setCell (Nat.le_refl _) _
                 have hB8 : Below w.heap.size w w8 := hB5.trans ((hb56.trans hbr8).mono hB5.size)
                 have hbox8 : ∀ W, Below w8.heap.size w8 W → BoxF W w5.heap.size (RefW.lstM (l.drop i)) := fun W hW => by
                   rw [HDROP.out]
                   have hlt := (Array.getElem?_eq_some_iff.1 hrow.1).1
                   refine ⟨A7, c7, (hW.block w5.heap.size hlt).trans hrow.1, hc7, Kd.F_below (Kd.F_step (Kd.F_mono hF7 ?_) (fun k hk _ => hrow.2 k hk)) hW⟩
                   intro k hk e
                   rcases hk with ⟨h1, _⟩ | h1
                   · rcases h1 with ⟨h1, _⟩ | h1
                     · exact h1 e
                     · have := hdr.size; omega
                   · have := hlt0.size; omega
                 have hf : ∀ j, w7.frozen? ⟨w5.heap.size, j, none⟩ = false := fun j => Lib.frozen_of_heap hbox7 j
                 have f0 := hf 0
                 have f1 := hf 1
                 have f2 := hf 2
                 have f3 := hf 3
                 have b0 := Lib.cell_of_heap hbox7 0
                 have b1 := Lib.cell_of_heap hbox7 1
                 have b2 := Lib.cell_of_heap hbox7 2
                 have b3 := Lib.cell_of_heap hbox7 3
                 have d0 := RefW.cell_later' HE0.out hB8
                 have d1 := RefW.cell_later' HE1.out hB8
                 have d2 := RefW.cell_later' HE2.out hB8
                 have d3 := RefW.cell_later' HE3.out hB8
                 have htx := Text_calls 3999 l[i] _ R w8 (hL.below hB8) ⟨A3, c3, rfl, hc3, Kd.C_below HC3.out hB8⟩ (fun _ => HA1.out)
                 rw [if_pos HA2.out] at htx
                 have HTX := Lib.hid htx
                 have HROW := Lib.hid hrow
                 have HF7 := Lib.hid hF7
                 clear htx hf hrow hF7)
              | (go_at_call 15
                 refine HTX.out.mono ?_
                 rintro e w9 ⟨rfl, hb9⟩))
            refine ⟨⟨i, rfl, by omega, ?_, hbr8.trans (hb9.mono (hb56.trans hbr8).size), ?_⟩, by simp [intOf]⟩
            · rw [HJ0.out, hst.out, ← app_str2]
            · exact hbox8 w9 hb9
end Go.Proofs.YthnjdfblappkfaaDoor
