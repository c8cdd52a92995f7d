/-
  lex.quoted: what stands between quotes.
-/
import Derived.Test.YthnjdfblappkfaaDoorBuilder
import Derived.Test.YthnjdfblappkfaaDoorLib1
import Derived.Test.YthnjdfblappkfaaDoorLx
namespace Go.Proofs.YthnjdfblappkfaaDoor
open Go.RowKit Go.Proofs.YthnjdfblappkfaaDoorW.PrintWords

def lex_quoted.f (a0 : ByteArray) : Option (ByteArray × Int × Int) :=
  if a0.size ≤ 140737488355328 then
    match Lx.quotedM [] ((bl a0).drop 1) with
    | some (t, rest) => some (⟨t.toArray⟩, (a0.size - rest.length : Nat), 0)
    | none => some (⟨#[]⟩, 0, 10)
  else none

theorem drop_at (s : ByteArray) (i : Nat) (h : i < s.size) : (bl s).drop i = s[i] :: (bl s).drop (i + 1) := List.drop_eq_getElem_cons (by simpa [bl] using h)
theorem drop_end (s : ByteArray) (i : Nat) (h : s.size ≤ i) : (bl s).drop i = [] := List.drop_eq_nil_of_le h

theorem quoted_qq {q : Option (List UInt8 × List UInt8)} {out A B C : List UInt8} {c c2 : UInt8} (h : Lx.quotedM out A = q) (hd : A = c :: B) (hd2 : B = c2 :: C) (e : c = 39) (e2 : c2 = 39) : Lx.quotedM (out ++ [39]) C = q := by
  subst hd hd2 e e2
  rw [← h]
  simp [Lx.quotedM]

theorem quoted_end {q : Option (List UInt8 × List UInt8)} {out A B : List UInt8} {c : UInt8} (h : Lx.quotedM out A = q) (hd : A = c :: B) (e : c = 39) (hB : ∀ x C, B = x :: C → x ≠ 39) : q = some (out, B) := by
  subst hd e
  rw [← h]
  cases B with
  | nil => simp [Lx.quotedM]
  | cons x C => simp [Lx.quotedM, hB x C rfl]
theorem quoted_esc {q : Option (List UInt8 × List UInt8)} {out A B C : List UInt8} {c c2 : UInt8} (h : Lx.quotedM out A = q) (hd : A = c :: B) (hd2 : B = c2 :: C) (e : c = 92) :
    (if c2 = 92 then Lx.quotedM (out ++ [92]) C else if c2 = 39 then Lx.quotedM (out ++ [39]) C else if c2 = 110 then Lx.quotedM (out ++ [10]) C else if c2 = 116 then Lx.quotedM (out ++ [9]) C else none) = q := by
  subst hd hd2 e
  rw [← h]
  simp [Lx.quotedM]
theorem quoted_esc_nil {q : Option (List UInt8 × List UInt8)} {out A : List UInt8} {c : UInt8} (h : Lx.quotedM out A = q) (hd : A = c :: []) (e : c = 92) : q = none := by
  subst hd e
  rw [← h]
  simp [Lx.quotedM]
theorem quoted_else {q : Option (List UInt8 × List UInt8)} {out A B : List UInt8} {c : UInt8} {n : Nat} (h : Lx.quotedM out A = q) (hd : A = c :: B) (hn : c.toNat = n) (h1 : n ≠ 39) (h2 : n ≠ 92) :
    (if n < 32 ∨ 126 < n then none else Lx.quotedM (out ++ [c]) B) = q := by
  subst hd hn
  rw [← h]
  have e1 : c ≠ 39 := fun e => h1 (by rw [e]; rfl)
  have e2 : c ≠ 92 := fun e => h2 (by rw [e]; rfl)
  have e3 : (c < 32 ∨ 126 < c) ↔ (c.toNat < 32 ∨ 126 < c.toNat) := by
    rw [UInt8.lt_iff_toNat_lt, UInt8.lt_iff_toNat_lt]; rfl
  have e4 := Lx.quotedM.eq_def out (c :: B)
  simp only [if_neg e1, if_neg e2, e3] at e4
  exact e4.symm

def QPost (q : Option (List UInt8 × List UInt8)) (n : Nat) (w : World) (e : Ending) (w' : World) : Prop :=
  (match q with
    | some (t, rest) => e = .returned (.tuple #[.string ⟨t.toArray⟩, .int .i64 (n - rest.length : Nat), .int .i64 0])
    | none => e = .returned (.tuple #[.string ⟨#[]⟩, .int .i64 0, .int .i64 10])) ∧ Below w.heap.size w w'

theorem wb (w0 W : World) (out : List UInt8) (c : UInt8) (n : Int) (hn : n = c.toNat) (hB : Hid (Lib.IsBuilderF 109 5 w0.heap.size w0.heap.size (Lib.byteCells out) W)) (hb : Below w0.heap.size w0 W) (hl : out.length + 1 ≤ 140737488355328) :
    Calls Tryd.prog 73 #[.pointer (some ⟨w0.heap.size, 0, none⟩), .int .u8 n] W fun e w' => e = .returned .nilIface ∧ Hid (Lib.IsBuilderF 109 5 w0.heap.size w0.heap.size (Lib.byteCells (out ++ [c])) w') ∧ Below w0.heap.size w0 w' := by
  refine (WriteByte_k w0.heap.size w0.heap.size (Lib.byteCells out) n W hB.out (by simpa [Lib.byteCells] using hl) hb.size).mono ?_
  rintro e w' ⟨rfl, h, b, _⟩
  refine ⟨rfl, ?_, hb.trans b⟩
  have e : Lib.byteCells (out ++ [c]) = Lib.byteCells out ++ [.int .u8 n] := by simp [Lib.byteCells, hn]
  rw [e]
  exact .inr h
theorem ib_esc (c : UInt8) : Lib.indexByte [92, 39, 110, 116] c = if c = 92 then 0 else if c = 39 then 1 else if c = 110 then 2 else if c = 116 then 3 else -1 := by
  by_cases h1 : c = 92
  · subst h1; decide
  by_cases h2 : c = 39
  · subst h2; decide
  by_cases h3 : c = 110
  · subst h3; decide
  by_cases h4 : c = 116
  · subst h4; decide
  rw [if_neg h1, if_neg h2, if_neg h3, if_neg h4]
  simp only [Lib.indexByte, beq_eq_false_iff_ne.2 (Ne.symm h1), beq_eq_false_iff_ne.2 (Ne.symm h2), beq_eq_false_iff_ne.2 (Ne.symm h3), beq_eq_false_iff_ne.2 (Ne.symm h4)]
  rfl

theorem ib_call (w : World) (c : UInt8) (n : Int) (k : Int) (hn : n = c.toNat) (hk : Lib.indexByte [92, 39, 110, 116] c = k) :
    Calls Tryd.prog 50 #[.string ⟨#[92, 39, 110, 116]⟩, .int .u8 n] w fun e w' => e = .returned (.int .i64 k) ∧ w = w' := by
  refine (Tryd.strings_IndexByte ⟨#[92, 39, 110, 116]⟩ n w).mono ?_
  rintro e w' ⟨rfl, rfl⟩
  subst hn
  refine ⟨?_, rfl⟩
  rw [← hk]
  have e : (c.toNat : Int).toNat.toUInt8 = c := by simp
  rw [e]

set_option maxHeartbeats 4000000 in
set_option maxRecDepth 100000 in
theorem lex_quoted.walk (s : ByteArray) (w : World) (hs : s.size ≤ 140737488355328) :
    Calls Tryd.prog 89 #[.string s] w (QPost (Lx.quotedM [] ((bl s).drop 1)) s.size w) := by
  obtain ⟨q, hq⟩ : ∃ q, Lx.quotedM [] ((bl s).drop 1) = q := ⟨_, rfl⟩
  rw [hq]
  have HQ := Lib.hid hq
  clear hq
  have hfr := Lib.hid (Lib.IsBuilderF.of (Lib.fresh_isBuilder 109 5 w))
  go_enter Tryd.func89, Tryd.ntmps89
  go_wp2
  go_loopw [6] (fun v6 wr => ∃ (i : Nat) (out : List UInt8), v6 = .int .i64 i ∧ 1 ≤ i ∧ (i ≤ s.size ∨ i = 1) ∧ out.length ≤ i ∧ Hid (Lx.quotedM out ((bl s).drop i) = q) ∧ Hid (Lib.IsBuilderF 109 5 w.heap.size w.heap.size (Lib.byteCells out) wr) ∧ Below w.heap.size w wr) (fun v6 _ => s.size + 1 - (intOf v6).toNat)
  case atStart => exact ⟨1, [], rfl, by omega, .inr rfl, by simp, HQ, hfr, (Below.refl _ _).alloc (Nat.le_refl _) _⟩
  case round =>
    obtain ⟨i, out, rfl, hi1, hi2, ho, hR, hB, hb⟩ := hrel
    by_cases hlt : i < s.size
    · have hd := drop_at s i hlt
      obtain ⟨c, hc⟩ : ∃ c, s[i] = c := ⟨_, rfl⟩
      rw [hc] at hd
      obtain ⟨n, hn⟩ : ∃ n : Nat, c.toNat = n := ⟨_, rfl⟩
      have hx : ∀ h : i < s.size, (s[i]'h).toNat = n := fun _ => by rw [hc]; exact hn
      have hnn : n < 256 := by rw [← hn]; exact c.toNat_lt
      have HD := Lib.hid hd
      have HN := Lib.hid hn
      clear hd hn hc
      by_cases h39 : n = 39
      · subst h39
        by_cases hl2 : i + 1 < s.size
        · obtain ⟨c2, hc2⟩ : ∃ c, s[i + 1] = c := ⟨_, rfl⟩
          obtain ⟨n2, hn2⟩ : ∃ n : Nat, c2.toNat = n := ⟨_, rfl⟩
          have hx2 : ∀ h : i + 1 < s.size, (s[i + 1]'h).toNat = n2 := fun _ => by rw [hc2]; exact hn2
          have HD2 := Lib.hid (hc2 ▸ drop_at s (i + 1) hl2)
          have HN2 := Lib.hid hn2
          clear hc2 hn2
          by_cases h39' : n2 = 39
          · subst h39'
            have hq1 := Lib.hid (quoted_qq hR.out HD.out HD2.out (UInt8.toNat_inj.1 HN.out) (UInt8.toNat_inj.1 HN2.out))
            go_wp2_with (go_at_call 73; refine (wb w _ out 39 _ rfl hB hb (by omega)).mono ?_)
            rintro e W1 ⟨rfl, hB1, hb1⟩
            go_wp2
            go_roundw
            case rel => exact ⟨i + 2, out ++ [39], by go_num, by omega, .inl (by omega), by simp; omega, hq1, hB1, hb1⟩
            case measure => simp [intOf]; omega
          · have hq1 := Lib.hid (quoted_end hR.out HD.out (UInt8.toNat_inj.1 HN.out) (fun x C e h => h39' (by rw [HD2.out] at e; injection e with e _; rw [← HN2.out, e, h]; rfl)))
            have t2 : ((n2 : Int) == 39) = false := by simp; omega
            go_wp2_with (go_at_call 75; refine (Tryd.Builder_String_any_k w.heap.size w.heap.size out _ hB.out hb.size).mono ?_)
            rintro e W1 ⟨rfl, _, hb1, _⟩
            go_wp2
            go_ret3
            rw [hq1.out]
            refine ⟨?_, hb.trans hb1⟩
            have e : s.size - ((bl s).drop (i + 1)).length = i + 1 := by simp [bl]; omega
            show Ending.returned _ = _
            simp only [e]
            rfl
        · have hq1 := Lib.hid (quoted_end hR.out HD.out (UInt8.toNat_inj.1 HN.out) (fun x C e h => by rw [drop_end s (i + 1) (by omega)] at e; cases e))
          have t2 : decide ((i : Int) + 1 < (s.size : Int)) = false := by simp; omega
          go_wp2_with (go_at_call 75; refine (Tryd.Builder_String_any_k w.heap.size w.heap.size out _ hB.out hb.size).mono ?_)
          rintro e W1 ⟨rfl, _, hb1, _⟩
          go_wp2
          go_ret3
          rw [hq1.out]
          refine ⟨?_, hb.trans hb1⟩
          have e : s.size - ((bl s).drop (i + 1)).length = i + 1 := by simp [bl]; omega
          show Ending.returned _ = _
          simp only [e]
          rfl
      · have t39 : ((n : Int) == 39) = false := by simp; omega
        by_cases h92 : n = 92
        · subst h92
          by_cases hl2 : i + 1 < s.size
          · obtain ⟨c2, hc2⟩ : ∃ c, s[i + 1] = c := ⟨_, rfl⟩
            obtain ⟨n2, hn2⟩ : ∃ n : Nat, c2.toNat = n := ⟨_, rfl⟩
            have hx2 : ∀ h : i + 1 < s.size, (s[i + 1]'h).toNat = n2 := fun _ => by rw [hc2]; exact hn2
            have HD2 := Lib.hid (hc2 ▸ drop_at s (i + 1) hl2)
            have HN2 := Lib.hid hn2
            clear hc2 hn2
            have hq1 := Lib.hid (quoted_esc hR.out HD.out HD2.out (UInt8.toNat_inj.1 HN.out))
            have hib := Lib.hid (ib_esc c2)
            have tl : ((i : Int) + 1 == (s.size : Int)) = false := by simp; omega
            by_cases g92 : c2 = 92
            · have hk : Lib.indexByte [92, 39, 110, 116] c2 = 0 := by rw [hib.out, if_pos g92]
              have hq2 := hq1.out
              rw [if_pos g92] at hq2
              have HK := Lib.hid hk
              have HQ2 := Lib.hid hq2
              clear hk hq2 g92
              go_wp2_with (first | (go_at_call 50; refine (ib_call _ c2 _ 0 (by rw [HN2.out]) HK.out).mono ?_; rintro e w' ⟨rfl, rfl⟩) | (go_at_call 73; refine (wb w _ out 92 _ rfl hB hb (by omega)).mono ?_; rintro e W1 ⟨rfl, hB1, hb1⟩))
              go_roundw
              case rel => exact ⟨i + 2, out ++ [92], by go_num, by omega, .inl (by omega), by simp; omega, HQ2, by assumption, by assumption⟩
              case measure => simp [intOf]; omega
            by_cases g39 : c2 = 39
            · have hk : Lib.indexByte [92, 39, 110, 116] c2 = 1 := by rw [hib.out, if_neg g92, if_pos g39]
              have hq2 := hq1.out
              rw [if_neg g92, if_pos g39] at hq2
              have HK := Lib.hid hk
              have HQ2 := Lib.hid hq2
              clear hk hq2 g39
              go_wp2_with (first | (go_at_call 50; refine (ib_call _ c2 _ 1 (by rw [HN2.out]) HK.out).mono ?_; rintro e w' ⟨rfl, rfl⟩) | (go_at_call 73; refine (wb w _ out 39 _ rfl hB hb (by omega)).mono ?_; rintro e W1 ⟨rfl, hB1, hb1⟩))
              go_roundw
              case rel => exact ⟨i + 2, out ++ [39], by go_num, by omega, .inl (by omega), by simp; omega, HQ2, by assumption, by assumption⟩
              case measure => simp [intOf]; omega
            by_cases g110 : c2 = 110
            · have hk : Lib.indexByte [92, 39, 110, 116] c2 = 2 := by rw [hib.out, if_neg g92, if_neg g39, if_pos g110]
              have hq2 := hq1.out
              rw [if_neg g92, if_neg g39, if_pos g110] at hq2
              have HK := Lib.hid hk
              have HQ2 := Lib.hid hq2
              clear hk hq2 g110
              go_wp2_with (first | (go_at_call 50; refine (ib_call _ c2 _ 2 (by rw [HN2.out]) HK.out).mono ?_; rintro e w' ⟨rfl, rfl⟩) | (go_at_call 73; refine (wb w _ out 10 _ rfl hB hb (by omega)).mono ?_; rintro e W1 ⟨rfl, hB1, hb1⟩))
              go_roundw
              case rel => exact ⟨i + 2, out ++ [10], by go_num, by omega, .inl (by omega), by simp; omega, HQ2, by assumption, by assumption⟩
              case measure => simp [intOf]; omega
            by_cases g116 : c2 = 116
            · have hk : Lib.indexByte [92, 39, 110, 116] c2 = 3 := by rw [hib.out, if_neg g92, if_neg g39, if_neg g110, if_pos g116]
              have hq2 := hq1.out
              rw [if_neg g92, if_neg g39, if_neg g110, if_pos g116] at hq2
              have HK := Lib.hid hk
              have HQ2 := Lib.hid hq2
              clear hk hq2 g116
              go_wp2_with (first | (go_at_call 50; refine (ib_call _ c2 _ 3 (by rw [HN2.out]) HK.out).mono ?_; rintro e w' ⟨rfl, rfl⟩) | (go_at_call 73; refine (wb w _ out 9 _ rfl hB hb (by omega)).mono ?_; rintro e W1 ⟨rfl, hB1, hb1⟩))
              go_roundw
              case rel => exact ⟨i + 2, out ++ [9], by go_num, by omega, .inl (by omega), by simp; omega, HQ2, by assumption, by assumption⟩
              case measure => simp [intOf]; omega
            have hk : Lib.indexByte [92, 39, 110, 116] c2 = -1 := by rw [hib.out, if_neg g92, if_neg g39, if_neg g110, if_neg g116]
            have hq2 := hq1.out
            rw [if_neg g92, if_neg g39, if_neg g110, if_neg g116] at hq2
            have HK := Lib.hid hk
            have HQ2 := Lib.hid hq2
            clear hk hq2 g92 g39 g110 g116
            go_wp2_with (first | (go_at_call 50; refine (ib_call _ c2 _ (-1) (by rw [HN2.out]) HK.out).mono ?_; rintro e w' ⟨rfl, rfl⟩))
            go_ret3
            rw [← HQ2.out]
            exact ⟨rfl, hb⟩
          · have hq1 := Lib.hid (quoted_esc_nil hR.out (drop_end s (i + 1) (by omega) ▸ HD.out) (UInt8.toNat_inj.1 HN.out))
            have tl : ((i : Int) + 1 == (s.size : Int)) = true := by simp; omega
            go_wp2
            go_ret3
            rw [hq1.out]
            exact ⟨rfl, hb⟩
        · have t92 : ((n : Int) == 92) = false := by simp; omega
          have hq1 := Lib.hid (quoted_else hR.out HD.out HN.out h39 h92)
          by_cases hr : n < 32 ∨ 126 < n
          · rw [if_pos hr] at hq1
            rcases hr with hr | hr
            · have tr : decide ((n : Int) < 32) = true := by simp; omega
              go_wp2
              go_ret3
              rw [← hq1.out]
              exact ⟨rfl, hb⟩
            · have tr : decide ((n : Int) < 32) = false := by simp; omega
              have tr2 : decide ((126 : Int) < n) = true := by simp; omega
              go_wp2
              go_ret3
              rw [← hq1.out]
              exact ⟨rfl, hb⟩
          · rw [if_neg hr] at hq1
            have tr : decide ((n : Int) < 32) = false := by simp; omega
            have tr2 : decide ((126 : Int) < n) = false := by simp; omega
            clear hr
            go_wp2_with (go_at_call 73; refine (wb w _ out c _ (by rw [HN.out]) hB hb (by omega)).mono ?_)
            rintro e W1 ⟨rfl, hB1, hb1⟩
            go_wp2
            go_roundw
            case rel => exact ⟨i + 1, out ++ [c], by go_num, by omega, .inl (by omega), by simp; omega, hq1, hB1, hb1⟩
            case measure => simp [intOf]; omega
    · go_wp2
      go_ret3
      have h1 := hR.out
      rw [drop_end s i (by omega)] at h1
      simp only [Lx.quotedM] at h1
      rw [← h1]
      exact ⟨rfl, hb⟩

theorem lex_quoted.calls (a0 : ByteArray) (r1 : ByteArray) (r2 r3 : Int) (w : World) (h : lex_quoted.f a0 = some (r1, r2, r3)) :
    Calls Tryd.prog 89 #[.string a0] w fun e w' => e = .returned (.tuple #[.string r1, .int .i64 r2, .int .i64 r3]) ∧ Below w.heap.size w w' := by
  unfold lex_quoted.f at h
  split at h
  · refine (lex_quoted.walk a0 w (by assumption)).mono ?_
    intro e w' ⟨he, hb⟩
    refine ⟨?_, hb⟩
    split at h <;> rename_i hq <;> rw [hq] at he <;> simp only [Option.some.injEq, Prod.mk.injEq] at h <;> obtain ⟨rfl, rfl, rfl⟩ := h <;> exact he
  · cases h
end Go.Proofs.YthnjdfblappkfaaDoor
