/-
  lex.Lex: the tokens of a text.
-/
import Derived.Test.YtecjdjdfikcliaaGreatDoorMLexC
import Derived.Laws.EntriesVeiled
import Derived.Test.YtecjdjdfikcliaaGreatDoorMLx
namespace Go.Proofs.YtecjdjdfikcliaaGreatDoor
open Go.RowKit Go.Proofs.YtecjdjdfikcliaaGreatDoorW.PrintWords Go.Proofs.YtecjdjdfikcliaaGreatDoorW.PrintLast Go.Proofs.YtecjdjdfikcliaaGreatDoorW.PrintMore

abbrev S := P.S62
def tokS (t : Lx.Tok) : S := ⟨t.kind, ⟨t.text.toArray⟩, t.n, t.pos, t.opn⟩

def LPost (q : Except (Nat × Nat) (List Lx.Tok)) (w : World) (e : Ending) (w' : World) : Prop :=
  ∃ v0 : Value, (match q with
    | .error (p, n) => e = .returned (.tuple #[v0, .int .i64 p, .int .i64 n]) ∧ Kd.R P.k62 62 w' w.heap.size (fun _ => True) v0 []
    | .ok l => e = .returned (.tuple #[v0, .int .i64 0, .int .i64 0]) ∧ Kd.R P.k62 62 w' w.heap.size (fun _ => True) v0 (l.map tokS)) ∧ Below w.heap.size w w'

theorem skip_call (s : ByteArray) (p n : Nat) (ok : Bool) (W : World) (hL : LaidE W) (hp : p + n ≤ s.size) (hs : ¬ 8192 < s.size) (h : Lx.skip ((bl s).drop p) = ((bl s).drop (p + n), ok)) :
    Calls Tryz.prog 31 #[.string (s.extract p s.size)] W fun e w' => e = .returned (.tuple #[.int .i64 n, .bool ok]) ∧ Below W.heap.size W w' := by
  refine lex_skip.calls _ _ _ W hL ?_
  unfold lex_skip.f
  rw [ba_from_size, if_pos (by omega), bl_from, h, List.length_drop, bl_length]
  rw [show s.size - p - (s.size - (p + n)) = n by omega]

theorem Lib_drewN (B : Nat) (w : World) (n : Nat) : Below B w (w.drewN n) := below_drewN (Below.refl B w) n

theorem ib_at (bg : ByteArray) (c : UInt8) (x k : Int) (W : World) (hx : x = c.toNat) (hk : Lib.indexByte (bl bg) c = k) :
    Calls Tryz.prog 33 #[.string bg, .int .u8 x] W fun e w' => e = .returned (.int .i64 k) ∧ w' = W := by
  refine (Tryz.strings_IndexByte bg x W).mono ?_
  rintro e w' ⟨rfl, rfl⟩
  subst hx
  have e : (c.toNat : Int).toNat.toUInt8 = c := by simp
  rw [e]
  exact ⟨by rw [← hk], rfl⟩

/-- Behind a rule's function: its token in a block of its own; how many bytes; an error's number. -/
def CutRel (W3 : World) (l : List UInt8) (v11 v12 v13 : Value) (wc : World) : Prop :=
  ∃ (gb : Nat) (k : Int) (t : ByteArray) (m len e1 : Int), v11 = .pointer (some ⟨gb, 0, none⟩) ∧ v12 = .int .i64 len ∧ v13 = .int .i64 e1 ∧ wc.heap[gb]? = some (.cells #[.int .u8 k, .string t, .int .i64 m, .int .i64 0, .bool false] 62 (0, 0)) ∧ TakeRel l k t m len e1 ∧ Below W3.heap.size W3 wc ∧ W3.heap.size ≤ gb
theorem CutRel.a {W3 W4 : World} {s : ByteArray} {a : Nat} {k : Int} {t : ByteArray} {m len e1 : Int} (hbb : Below W3.heap.size W3 W4) (htr : TakeRel (bl (s.extract a s.size)) k t m len e1) :
    CutRel W3 ((bl s).drop a) (.pointer (some ⟨W4.heap.size, 0, none⟩)) (.int .i64 len) (.int .i64 e1) (W4.alloc (.cells #[.int .u8 k, .string t, .int .i64 m, .int .i64 0, .bool false] 62)) := by
  rw [bl_from] at htr
  exact ⟨_, _, _, _, _, _, rfl, rfl, rfl, heap_alloc_new W4 _, htr, hbb.alloc hbb.size _, hbb.size⟩
theorem CutRel.b {W3 W4 : World} {g : Nat} {s : ByteArray} {a : Nat} {k : Int} {t : ByteArray} {m len e1 : Int} (hg : W3.heap.size = g) (hblk : W4.heap[g]? = some (.cells #[.int .u8 0, .string ⟨#[]⟩, .int .i64 0, .int .i64 0, .bool false] 62 (0, 0))) (hbb : Below W3.heap.size W3 W4) (htr : TakeRel (bl (s.extract a s.size)) k t m len e1) :
    CutRel W3 ((bl s).drop a) (.pointer (some ⟨g, 0, none⟩)) (.int .i64 len) (.int .i64 e1) (((((W4.setCell ⟨g, 0, none⟩ (.int .u8 k)).setCell ⟨g, 1, none⟩ (.string t)).setCell ⟨g, 2, none⟩ (.int .i64 m)).setCell ⟨g, 3, none⟩ (.int .i64 0)).setCell ⟨g, 4, none⟩ (.bool false)) := by
  rw [bl_from] at htr
  exact ⟨g, _, _, _, _, _, rfl, rfl, rfl, tok_end hblk _ _ _ _ _, htr, below_set (below_set (below_set (below_set (below_set hbb (Nat.le_of_eq hg)) (Nat.le_of_eq hg)) (Nat.le_of_eq hg)) (Nat.le_of_eq hg)) (Nat.le_of_eq hg), Nat.le_of_eq hg⟩

theorem byte_eq (d : UInt8) : ((d.toNat : Int) == 40) = (d == 40) := by
  rw [Bool.eq_iff_iff]
  simp only [beq_iff_eq, ← UInt8.toNat_inj]
  simp only [UInt8.reduceToNat]
  omega
theorem app_own {w0 wc : World} {B G gb : Nat} {v : Value} {xs : List S} (h : Kd.R P.k62 62 wc B (fun k => True ∧ B ≤ k ∧ k < G ∧ ∃ q, q ∈ 62 :: P.k62.E ∧ ∃ cells, w0.heap[k]? = some (.cells cells q (0, 0))) v xs) (hg : G ≤ gb) (x y : Value) :
    Kd.R P.k62 62 ((wc.setCell ⟨gb, 3, none⟩ x).setCell ⟨gb, 4, none⟩ y) B (fun k => k ≠ gb) v xs :=
  Kd.R_far (Kd.R_far (Kd.R_mono h (ok' := fun k => k ≠ gb) (fun k hk => by omega)) (fun _ hk => hk) _) (fun _ hk => hk) _
theorem app_done {w6 : World} {B gb kn a : Nat} {v : Value} {acc : List Lx.Tok} {t : ByteArray} {m : Int} {b : Bool} (h : Kd.R P.k62 62 w6 B (fun k => k ≠ gb) v (acc.map tokS ++ [(⟨kn, t, m, a, b⟩ : S)])) :
    Kd.R P.k62 62 w6 B (fun _ => True) v ((acc ++ [(⟨kn, bl t, m, a, b⟩ : Lx.Tok)]).map tokS) := by
  have e : (acc ++ [(⟨kn, bl t, m, a, b⟩ : Lx.Tok)]).map tokS = acc.map tokS ++ [(⟨kn, t, m, a, b⟩ : S)] := by simp [tokS, bl]
  rw [e]
  exact Kd.R_mono h (fun _ _ => trivial)

theorem info_tok : (Tryz.prog.info? 62).map (fun i => (i.zero, i.size, i.bytes)) = some (some (.agg #[(.int .u8 0), (.string ⟨#[]⟩), (.int .i64 0), (.int .i64 0), (.bool false)]), 5, 48) := by kernel_rfl

set_option maxHeartbeats 4000000 in
set_option maxRecDepth 100000 in
theorem lex_Lex.walk (s : ByteArray) (w : World) (hL : LaidE w) :
    Calls Tryz.prog 20 #[.string s] w (LPost (Lx.lex (bl s)) w) := by
  by_cases hbig : 8192 < s.size
  · have hq : Lx.lex (bl s) = .error (0, 3) := by unfold Lx.lex; rw [if_pos (by rw [bl_length]; exact hbig)]
    rw [hq]
    clear hq
    go_enter Tryz.func20, Tryz.ntmps20
    go_wp2
    go_step3
    go_wp2
    rw [Exit.noGoto_ret]
    go_ret3
    exact ⟨_, ⟨rfl, Kd.R_nil _ _ _ _ _⟩, Below.refl _ _⟩
  · have hq := Rest.start s hbig
    generalize Lx.lex (bl s) = q at *
    have HQ := Lib.hid hq
    have HL := Lib.hid hL
    clear hq hL
    go_enter Tryz.func20, Tryz.ntmps20
    go_wp2
    go_step3
    go_wp2
    go_step3
    go_wp2
    go_loopg [5, 6] (s.size + 1) (fun g v5 v6 wr => ∃ (p : Nat) (acc : List Lx.Tok), v6 = .int .i64 p ∧ p ≤ s.size ∧ acc.length ≤ p ∧ Hid (s.size - p < g) ∧ Hid (Rest q s p acc) ∧ Hid (Kd.R P.k62 62 wr w.heap.size (fun _ => True) v5 (acc.map tokS)) ∧ Below w.heap.size w wr)
    case atStart => exact ⟨0, [], rfl, Nat.zero_le _, Nat.zero_le _, Nat.lt_succ_self _, HQ, Kd.R_nil _ _ _ _ _, Below.refl _ _⟩
    case round =>
      obtain ⟨p, acc, rfl, hp, hacc, hg, hR, hV, hb⟩ := hrel
      obtain ⟨p1, ok, hp1, hp2, hsk, hs1, hs2, hs3⟩ := hR.out.step hp
      obtain ⟨n, rfl⟩ : ∃ n, p1 = p + n := ⟨p1 - p, by omega⟩
      have HSK := Lib.hid hsk
      have HS1 := Lib.hid hs1
      have HS2 := Lib.hid hs2
      have HS3 := Lib.hid hs3
      clear hsk hs1 hs2 hs3
      go_wp2_with fail
      refine (skip_call s p n ok _ (HL.out.below hb) hp2 hbig HSK.out).mono ?_
      rintro e w1 ⟨rfl, hb1⟩
      have hbw := hb.trans (hb1.mono hb.size)
      have hV1 := Lib.hid (Kd.R_below hV.out hb1)
      clear hb1
      cases ok with
      | false =>
        go_wp2
        rw [Exit.noGoto_ret]
        go_ret3
        rw [HS1.out (by first | rfl | trivial)]
        exact ⟨_, ⟨rfl, Kd.R_nil _ _ _ _ _⟩, hbw⟩
      | true =>
        by_cases hend : p + n = s.size
        · have ht : (((p : Int) + (n : Int)) == (s.size : Int)) = true := by simp; omega
          have hq := Lib.hid (HS2.out (by first | rfl | trivial) hend)
          clear HS1 HS2 HS3
          go_wp2_with (first | ((with_reducible refine gate_builtin (b := .append) (xs := #[.tmp 34, .tmp 37]) rfl ?_); at_builtin; refine Kd.R_append P.k62 (w0 := w) w.heap.size rfl (.tmp 34) (.tmp 37) 52 62 (.agg #[(.int .u8 0), (.string ⟨#[]⟩), (.int .i64 0), (.int .i64 0), (.bool false)]) 48 rfl Tryz.underlying52 info_tok rfl (by decide) (by omega) u5 (acc.map tokS) (⟨7, (⟨#[]⟩ : ByteArray), 0, (p : Int) + (n : Int), false⟩ : S) [.int .u8 7, .string (⟨#[]⟩ : ByteArray), .int .i64 0, .int .i64 ((p : Int) + (n : Int)), .bool false] (fun _ => True) (fun _ => False) rfl rfl ?aP (fun _ hk => hk.elim) ?aF ?aO ?aB ?aS ?aL ?_))
          case aP => exact P.k62_mkM _ _ _ _
          case aF => exact fun _ _ => trivial
          case aO => exact hV1.out
          case aB => exact hbw
          case aS => exact hbw.size
          case aL => rw [List.length_map]; omega
          intro v1 w2 ho hb2 _ _
          go_wp2
          rw [Exit.noGoto_ret]
          go_ret3
          rw [hq.out]
          refine ⟨_, ⟨rfl, ?_⟩, hb2⟩
          have e : (acc ++ [(⟨7, [], 0, p + n, false⟩ : Lx.Tok)]).map tokS = acc.map tokS ++ [(⟨7, (⟨#[]⟩ : ByteArray), 0, (p : Int) + (n : Int), false⟩ : S)] := by simp [tokS]
          rw [e]
          exact ho
        · have ht : (((p : Int) + (n : Int)) == (s.size : Int)) = false := by simp; omega
          have hs3 := HS3.out (by first | rfl | trivial) (by omega)
          have HS3' := Lib.hid hs3
          clear HS1 HS2 HS3 hs3
          have hL1 := HL.out.below hbw
          go_wp2_with fail
          refine (rules_walk _).mono ?_
          rintro e w2 ⟨g, s0, k0, s1, k1, k3, k4, rfl, hru, hb2, hgs⟩
          obtain ⟨a, ha⟩ : ∃ a : Nat, p + n = a := ⟨_, rfl⟩
          have hlt : a < s.size := by omega
          rw [ha] at HS3'
          have hpa : p ≤ a := by omega
          have hl := drop_at s a hlt
          obtain ⟨c, hc⟩ : ∃ c, s[a] = c := ⟨_, rfl⟩
          rw [hc] at hl
          have hx : ∀ h : a < s.size, (s[a]'h).toNat = c.toNat := fun _ => by rw [hc]
          have HLC := Lib.hid hl
          clear hc hl
          have hV2 := Lib.hid (Kd.R_below hV1.out hb2)
          have hL2 := hL1.below hb2
          have hbw2 := hbw.trans (hb2.mono hbw.size)
          have hsz2 := hbw2.size
          clear hb2 hV1 hV hL1 hbw hb
          have HA := Lib.hid ha
          clear ha hend ht
          go_wp2
          go_loopw [5, 6, 41] (fun v5 v6 v41 W => ∃ i : Nat, v5 = u5 ∧ v6 = .int .i64 (a : Int) ∧ v41 = .int .i64 i ∧ i ≤ 7 ∧ Hid (∀ j, j < i → (bl (begins j)).contains c = false) ∧ Below w2.heap.size w2 W) (fun _ _ v41 _ => 7 - (intOf v41).toNat)
          case atStart => exact ⟨0, rfl, by rw [← HA.out]; go_num, rfl, by omega, fun j h => absurd h (by omega), Below.refl _ _⟩
          case round =>
            obtain ⟨i, rfl, rfl, rfl, hi, hno, hbi⟩ := hrel
            by_cases hi7 : i < 7
            · obtain ⟨bg, f, cap, hbg, hcell, hent, hcall⟩ := rule_any g s0 k0 s1 k1 k3 k4 i hi7 (s.extract a s.size) c ((bl s).drop (a + 1)) (by rw [bl_from]; exact HLC.out) (by rw [ba_from_size]; omega) hno.out
              obtain ⟨hc0, hc1⟩ := hcell wr (hru.below hbi)
              have HC := Lib.hid hcall
              have HBG := Lib.hid hbg
              have HE := Lib.hid hent
              clear hcall hbg hcell hent
              go_wp2
              have hsz := wr.size_alloc (.cells #[.string bg, .func (.func f) #[] cap] 79)
              have hbl := heap_alloc_new wr (.cells #[.string bg, .func (.func f) #[] cap] 79)
              have hbW := (Below.refl w2.heap.size w2).trans (hbi.alloc hbi.size (.cells #[.string bg, .func (.func f) #[] cap] 79))
              generalize wr.alloc (.cells #[.string bg, .func (.func f) #[] cap] 79) = W3 at *
              have hd0 : W3.cell? ⟨wr.heap.size, 0, none⟩ = some (.string bg) := blk_cell hbl 0
              have hd1 : W3.cell? ⟨wr.heap.size, 1, none⟩ = some (.func (.func f) #[] cap) := blk_cell hbl 1
              have hm := ib_mem (bl bg) c
              cases hin : (bl bg).contains c with
              | false =>
                have hk : Lib.indexByte (bl bg) c = -1 := by
                  have := Lib.indexByte_ge (bl bg) c
                  have := hm.2.2 hin
                  omega
                have HK := Lib.hid hk
                have HNO := Lib.hid (show ∀ j, j < i + 1 → (bl (begins j)).contains c = false by
                  intro j hj
                  rcases Nat.lt_or_ge j i with h | h
                  · exact hno.out j h
                  · obtain rfl : j = i := by omega
                    rw [← HBG.out]; exact hin)
                clear hk hin hm
                have b0 : (0 : Int) ≤ (a : Int) := by omega
                have b1 : (a : Int) < (s.size : Int) := by omega
                go_quiet ((go_at_call 33; exact Calls.quiet_of_same (ib_at bg c _ (-1) _ rfl HK.out)))
                go_wp2
                go_roundw
                case rel => exact ⟨i + 1, rfl, rfl, by go_num, by omega, HNO, hbW.trans (Lib_drewN w2.heap.size W3 _)⟩
                case measure => simp [intOf]; omega
              | true =>
                obtain ⟨m, hmk⟩ : ∃ m : Nat, Lib.indexByte (bl bg) c = m := ⟨(Lib.indexByte (bl bg) c).toNat, by have := hm.1.2 hin; omega⟩
                have HK := Lib.hid hmk
                have hca := HC.out hin
                have HCA := Lib.hid hca
                have htm : decide ((m : Int) < 0) = false := by simp
                have b0 : (0 : Int) ≤ (a : Int) := by omega
                have b1 : (a : Int) < (s.size : Int) := by omega
                clear hm hmk hin hca HC
                go_quiet ((go_at_call 33; exact Calls.quiet_of_same (ib_at bg c _ m _ rfl HK.out)))
                go_wp2
                have hent := HE.out
                have hb2 : decide ((a : Int) ≤ (s.size : Int)) = true := by simp; omega
                go_cut [11, 12, 13] (fun v11 v12 v13 wc => CutRel W3 ((bl s).drop a) v11 v12 v13 wc)
                case first =>
                  have hbA := fun (nn : Nat) => Lib.hid (hbW.trans (Lib_drewN w2.heap.size W3 nn))
                  have hbB := fun (nn : Nat) => Lib.hid ((hbW.trans (Lib_drewN w2.heap.size W3 nn)).alloc hbW.size (.cells #[.int .u8 0, .string ⟨#[]⟩, .int .i64 0, .int .i64 0, .bool false] 62))
                  go_region_with (first | (refine (HCA.out _ (hru.below (hbA _).out) (hL2.below (hbA _).out)).mono ?_; rintro e W4 ⟨k, t, m, len, e1, ⟨rfl, hb4⟩, htr⟩; have hbb : Below W3.heap.size W3 W4 := (Lib_drewN W3.heap.size W3 (nq + 1)).trans hb4) | (refine (HCA.out _ (hru.below (hbB _).out) (hL2.below (hbB _).out)).mono ?_; rintro e W4 ⟨k, t, m, len, e1, ⟨rfl, hb4⟩, htr⟩; have hblk := blk_below (heap_alloc_new (W3.drewN (nq + 1)) (.cells #[.int .u8 0, .string ⟨#[]⟩, .int .i64 0, .int .i64 0, .bool false] 62)) hb4; rw [show (W3.drewN (nq + 1)).heap.size = wr.heap.size + 1 from hsz] at hblk; obtain ⟨⟨hg0, hg1, hg2, hg3, hg4⟩, hf0, hf1, hf2, hf3, hf4⟩ := tok_cells hblk; have hbb : Below W3.heap.size W3 W4 := ((Lib_drewN W3.heap.size W3 (nq + 1)).alloc (Nat.le_refl _) _).trans (hb4.mono (by simp))))
                  all_goals (go_wp2_with fail)
                  all_goals go_meet
                  all_goals
                    case rel =>
                      first
                        | (with_reducible exact CutRel.b hsz hblk hbb htr)
                        | (with_reducible exact CutRel.a hbb htr)
                case rest =>
                  obtain ⟨gb, k, t, m, len, e1, rfl, rfl, rfl, hblk, htr, hb5, hgb⟩ := hcut
                  obtain ⟨⟨hc0, hc1, hc2, hc3, hc4⟩, hf0, hf1, hf2, hf3, hf4⟩ := tok_cells hblk
                  have hb25 := hbW.trans (hb5.mono hbW.size)
                  have hbw5 := hbw2.trans (hb25.mono hsz2)
                  have hV5 := Lib.hid (Kd.R_below (Kd.R_bound hV2.out) hb25)
                  have hgw : w2.heap.size ≤ gb := Nat.le_trans hbW.size hgb
                  have hgc : gb < wc.heap.size := (Array.getElem?_eq_some_iff.1 hblk).1
                  rcases htr with ⟨rfl, kn, ln, rfl, rfl, hln, htk⟩ | ⟨rfl, htk⟩
                  · have hq := HS3'.out
                    rw [htk] at hq
                    obtain ⟨p2, hp2a, hp2b, hrest, hq1, hq2⟩ := hq
                    have hlen : ln ≤ s.size - a := by
                      have := hln
                      rw [List.length_drop, bl_length] at this
                      exact this
                    obtain rfl : p2 = a + ln := by
                      have := congrArg List.length hrest
                      rw [List.drop_drop, List.length_drop, List.length_drop, bl_length] at this
                      omega
                    have HQ1 := Lib.hid hq1
                    have HQ2 := Lib.hid hq2
                    have hbt : (bl t).length = t.size := rfl
                    rw [hbt] at HQ1 HQ2
                    clear hq1 hq2 htk hrest hln hbt
                    by_cases h32 : 32 < t.size
                    · have hd32 : decide ((32 : Int) < (t.size : Int)) = true := by simp; omega
                      have hq := Lib.hid (HQ1.out h32)
                      clear HQ1 HQ2
                      go_wp2
                      try rw [Exit.noGoto_ret]
                      go_ret3
                      rw [hq.out]
                      exact ⟨_, ⟨rfl, Kd.R_nil _ _ _ _ _⟩, hbw5⟩
                    · have hd32 : decide ((32 : Int) < (t.size : Int)) = false := by simp; omega
                      have hq := Lib.hid (HQ2.out h32)
                      clear HQ1 HQ2
                      by_cases hend2 : a + ln < s.size
                      · have hrd : decide ((a : Int) + (ln : Int) < (s.size : Int)) = true := by simp; omega
                        obtain ⟨b, hb⟩ : ∃ b, (s[a + ln] == 40) = b := ⟨_, rfl⟩
                        have hhd : (((bl s).drop (a + ln)).head? == some 40) = b := by rw [drop_at s (a + ln) hend2, ← hb]; rfl
                        rw [List.drop_drop, hhd] at hq
                        have hop : ∀ h : a + ln < s.size, (((s[a + ln]'h).toNat : Int) == 40) = b := fun _ => by rw [← hb]; exact byte_eq _
                        clear hhd hb
                        go_wp2_with (first | ((with_reducible refine gate_builtin (b := .append) (xs := #[.tmp 90, .tmp 92]) rfl ?_); at_builtin; refine Kd.R_append P.k62 (w0 := w) w.heap.size rfl (.tmp 90) (.tmp 92) 52 62 (.agg #[(.int .u8 0), (.string ⟨#[]⟩), (.int .i64 0), (.int .i64 0), (.bool false)]) 48 rfl Tryz.underlying52 info_tok rfl (by decide) (by omega) u5 (acc.map tokS) (⟨kn, t, m, a, b⟩ : S) [.int .u8 kn, .string t, .int .i64 m, .int .i64 a, .bool b] (fun k_ => k_ ≠ gb) (fun _ => False) rfl (by first | rfl | (go_simp; done) | (go_simp; rfl)) ?aP (fun _ hk => hk.elim) ?aF ?aO ?aB ?aS ?aL ?_))
                        case aP => exact P.k62_mkM _ _ _ _
                        case aF => intro k_ hk; rintro rfl; simp at hk; omega
                        case aO => exact app_own hV5.out hgw _ _
                        case aB => exact below_set (below_set hbw5 (Nat.le_trans hsz2 hgw)) (Nat.le_trans hsz2 hgw)
                        case aS => exact (below_set (below_set hbw5 (Nat.le_trans hsz2 hgw)) (Nat.le_trans hsz2 hgw)).size
                        case aL => rw [List.length_map]; omega
                        intro v1 w6 ho hb6 _ _
                        go_wp2
                        go_roundg (s.size - (a + ln) + 1)
                        case measure => have := hg.out; omega
                        case rel =>
                          refine ⟨a + ln, acc ++ [⟨kn, bl t, m, a, b⟩], by go_num, by omega, by simp; omega, Nat.lt_succ_self _, hq, ?_, hb6⟩
                          exact app_done ho
                      · have hrd : decide ((a : Int) + (ln : Int) < (s.size : Int)) = false := by simp; omega
                        have hhd : (((bl s).drop (a + ln)).head? == some 40) = false := by rw [drop_end s (a + ln) (by omega)]; rfl
                        rw [List.drop_drop, hhd] at hq
                        clear hhd
                        go_wp2_with (first | ((with_reducible refine gate_builtin (b := .append) (xs := #[.tmp 90, .tmp 92]) rfl ?_); at_builtin; refine Kd.R_append P.k62 (w0 := w) w.heap.size rfl (.tmp 90) (.tmp 92) 52 62 (.agg #[(.int .u8 0), (.string ⟨#[]⟩), (.int .i64 0), (.int .i64 0), (.bool false)]) 48 rfl Tryz.underlying52 info_tok rfl (by decide) (by omega) u5 (acc.map tokS) (⟨kn, t, m, a, false⟩ : S) [.int .u8 kn, .string t, .int .i64 m, .int .i64 a, .bool false] (fun k_ => k_ ≠ gb) (fun _ => False) rfl (by first | rfl | (go_simp; done) | (go_simp; rfl)) ?aP (fun _ hk => hk.elim) ?aF ?aO ?aB ?aS ?aL ?_))
                        case aP => exact P.k62_mkM _ _ _ _
                        case aF => intro k_ hk; rintro rfl; simp at hk; omega
                        case aO => exact app_own hV5.out hgw _ _
                        case aB => exact below_set (below_set hbw5 (Nat.le_trans hsz2 hgw)) (Nat.le_trans hsz2 hgw)
                        case aS => exact (below_set (below_set hbw5 (Nat.le_trans hsz2 hgw)) (Nat.le_trans hsz2 hgw)).size
                        case aL => rw [List.length_map]; omega
                        intro v1 w6 ho hb6 _ _
                        go_wp2
                        go_roundg (s.size - (a + ln) + 1)
                        case measure => have := hg.out; omega
                        case rel =>
                          refine ⟨a + ln, acc ++ [⟨kn, bl t, m, a, false⟩], by go_num, by omega, by simp; omega, Nat.lt_succ_self _, hq, ?_, hb6⟩
                          exact app_done ho
                  · have hq := HS3'.out
                    rw [htk] at hq
                    have HQ2 := Lib.hid hq
                    clear hq htk
                    go_wp2
                    try rw [Exit.noGoto_ret]
                    go_ret3
                    rw [HQ2.out]
                    exact ⟨_, ⟨rfl, Kd.R_nil _ _ _ _ _⟩, hbw5⟩
            · obtain rfl : i = 7 := by omega
              have hq := HS3'.out
              rw [HLC.out, rule_none c _ (fun j hj => hno.out j hj)] at hq
              have HQ2 := Lib.hid hq
              clear hq
              go_wp2
              try rw [Exit.noGoto_ret]
              go_ret3
              rw [HQ2.out]
              exact ⟨_, ⟨rfl, Kd.R_nil _ _ _ _ _⟩, hbw2.trans (hbi.mono hsz2)⟩

def lex_Lex.f (a0 : ByteArray) : Option (List S × Int × Int) :=
  match Lx.lex (bl a0) with
  | .error (p, n) => some ([], (p : Int), (n : Int))
  | .ok l => some (l.map tokS, 0, 0)

theorem lex_Lex.calls (a0 : ByteArray) (r1 : List S) (r2 r3 : Int) (w : World) (hL : LaidE w) (h : lex_Lex.f a0 = some (r1, r2, r3)) :
    Calls Tryz.prog 20 #[.string a0] w fun e w' => ∃ v0_ : Value, e = .returned (.tuple #[v0_, .int .i64 r2, .int .i64 r3]) ∧ Kd.R P.k62 62 w' w.heap.size (fun _ => True) v0_ r1 ∧ Below w.heap.size w w' := by
  refine (lex_Lex.walk a0 w hL).mono ?_
  intro e w' ⟨v0, hq, hb⟩
  unfold lex_Lex.f at h
  split at h <;> rename_i hl <;> rw [hl] at hq <;> simp only [Option.some.injEq, Prod.mk.injEq] at h <;> obtain ⟨rfl, rfl, rfl⟩ := h <;> exact ⟨v0, hq.1, hq.2, hb⟩
end Go.Proofs.YtecjdjdfikcliaaGreatDoor
