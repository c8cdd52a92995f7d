/-
  The rule of symbols; and all seven in one.
-/
import Derived.Test.YthnjdfblappkfaaDoorRuleCall
namespace Go.Proofs.YthnjdfblappkfaaDoor
open Go.RowKit Go.Proofs.YthnjdfblappkfaaDoorW.PrintWords Go.Proofs.YthnjdfblappkfaaDoorW.PrintLast Go.Proofs.YthnjdfblappkfaaDoorW.PrintMore

theorem ib_mem : ∀ (l : List UInt8) (c : UInt8), (0 ≤ Lib.indexByte l c ↔ l.contains c = true) ∧ (Lib.indexByte l c < 0 ↔ l.contains c = false)
  | [], c => ⟨⟨fun h => by simp [Lib.indexByte] at h, fun h => by simp at h⟩, ⟨fun _ => rfl, fun _ => by simp [Lib.indexByte]⟩⟩
  | b :: l, c => by
    have ih := ib_mem l c
    have hge := Lib.indexByte_ge l c
    by_cases hb : b = c
    · subst hb
      simp [Lib.indexByte]
    · have h1 : (b == c) = false := beq_eq_false_iff_ne.2 hb
      have h2 : (b :: l).contains c = l.contains c := by
        have h3 : (c == b) = false := beq_eq_false_iff_ne.2 (Ne.symm hb)
        simp only [List.contains_cons, h3, Bool.false_or]
      rw [h2]
      simp only [Lib.indexByte, h1, Bool.false_eq_true, if_false]
      by_cases hk : Lib.indexByte l c = -1
      · have hf : l.contains c = false := ih.2.1 (by omega)
        rw [hk, hf]
        simp
      · have h4 : (Lib.indexByte l c == -1) = false := beq_eq_false_iff_ne.2 hk
        rw [h4]
        simp only [Bool.false_eq_true, if_false]
        have ht : l.contains c = true := ih.1.1 (by omega)
        rw [ht]
        constructor
        · exact ⟨fun _ => rfl, fun _ => by omega⟩
        · exact ⟨fun h => by omega, fun h => by cases h⟩

theorem call_symbol (str : ByteArray) (W : World) (c : UInt8) (r : List UInt8) (hl : bl str = c :: r) (hs : str.size ≤ 8192)
    (ht : Lx.take (c :: r) = if (c :: r).takeWhile Lx.symbolB = [46] ∧ (((c :: r).dropWhile Lx.symbolB).head?.all fun c => Lx.blankB c || c == 37) = true then .ok (6, [], 0, (c :: r).dropWhile Lx.symbolB) else .ok (1, (c :: r).takeWhile Lx.symbolB, 0, (c :: r).dropWhile Lx.symbolB)) :
    Calls Tryd.prog 87 #[.string str] W (RPost (bl str) W) := by
  obtain ⟨n, hn⟩ : ∃ n : Nat, n = ((bl str).takeWhile Lx.symbolB).length := ⟨_, rfl⟩
  have hrun : P.lex_run.f str ⟨#[43, 45, 42, 47, 92, 94, 60, 62, 61, 126, 58, 46, 63, 64, 35, 38, 36]⟩ = some (n : Int) := by
    have h := run_eq str setSymbol ascii_symbol (by omega)
    rw [headLen_symbol, ← hn] at h
    exact h
  have hle : n ≤ str.size := by rw [hn, ← bl_length]; exact head_take _ _
  have hw : bl (str.extract 0 n) = (bl str).takeWhile Lx.symbolB := by rw [bl_extract, List.drop_zero, hn, take_takeWhile]
  have hrest : (bl str).drop n = (bl str).dropWhile Lx.symbolB := by rw [hn, drop_takeWhile]
  have htl : (str.extract 0 n).toList = (bl str).takeWhile Lx.symbolB := by
    rw [Lib.extract_toList, List.drop_zero, Nat.sub_zero, hn]
    exact take_takeWhile _ _
  have key : ∃ (k : Nat) (t : ByteArray), P.lex_symbol.f str = some ((k : Int), t, 0, 0, false, (n : Int), 0) ∧ Lx.take (bl str) = .ok (k, bl t, 0, (bl str).drop n) := by
    unfold P.lex_symbol.f
    rw [hrun]
    simp only [Option.bind_some, Int.toNat_natCast, htl]
    rw [if_pos (by omega), if_pos (by omega)]
    rw [hl] at hw htl hrest ⊢
    rw [hrest]
    by_cases h46 : (c :: r).takeWhile Lx.symbolB = [46]
    · rw [if_pos h46]
      by_cases hend : (n : Int) = (str.size : Int)
      · rw [if_pos hend]
        refine ⟨6, ⟨#[]⟩, rfl, ?_⟩
        have hnil : (c :: r).dropWhile Lx.symbolB = [] := by
          rw [← hrest]
          refine List.drop_eq_nil_of_le ?_
          have := bl_length str
          rw [hl] at this
          omega
        rw [ht, if_pos ⟨h46, by rw [hnil]; rfl⟩]
      · rw [if_neg hend, if_pos (by omega)]
        have hlt : n < str.size := by omega
        obtain ⟨d, hd⟩ : ∃ d, d = str[n] := ⟨_, rfl⟩
        have hdrop : (c :: r).dropWhile Lx.symbolB = d :: (bl str).drop (n + 1) := by
          rw [← hrest, ← hl, drop_at str n hlt, hd]
        have hbt : bt str (n : Int) = d.toNat := by
          have := bt_at str (n : Int) (by simpa using hlt)
          rw [← this, hd]
          rfl
        unfold strings_IndexByte.f
        simp only [Option.bind_some, hbt]
        have ec : (d.toNat : Int).toNat.toUInt8 = d := by simp
        rw [ec]
        have hm := ib_mem [32, 9, 13, 10, 37] d
        have hb : (([32, 9, 13, 10, 37] : List UInt8).contains d) = (Lx.blankB d || d == 37) := by
          unfold Lx.blankB
          simp only [List.contains_cons, List.contains_nil, Bool.or_false, Bool.or_assoc]
        by_cases hi : 0 ≤ Lib.indexByte [32, 9, 13, 10, 37] d
        · have hi' : Lib.indexByte [32, 9, 13, 10, 37] d ≥ 0 := hi
          rw [if_pos hi']
          refine ⟨6, ⟨#[]⟩, rfl, ?_⟩
          rw [ht, if_pos ⟨h46, by rw [hdrop]; simp only [List.head?_cons, Option.all_some]; rw [← hb]; exact hm.1.1 hi⟩]
        · have hi' : ¬ Lib.indexByte [32, 9, 13, 10, 37] d ≥ 0 := hi
          rw [if_neg hi']
          refine ⟨1, _, rfl, ?_⟩
          rw [ht, if_neg, hw]
          rintro ⟨_, h2⟩
          rw [hdrop] at h2
          simp only [List.head?_cons, Option.all_some] at h2
          rw [← hb] at h2
          exact hi (hm.1.2 h2)
    · rw [if_neg h46]
      refine ⟨1, _, rfl, ?_⟩
      rw [ht, if_neg (fun h => h46 h.1), hw]
  obtain ⟨k, t, hf, hk⟩ := key
  refine (P.lex_symbol.calls str _ _ _ _ _ _ _ W hf).mono ?_
  intro e w' ⟨he, hb⟩
  exact ⟨k, t, 0, n, 0, ⟨he, hb⟩, Or.inl ⟨rfl, k, n, rfl, rfl, by rw [bl_length]; exact hle, hk⟩⟩

def begins : Nat → ByteArray
  | 0 => bLower
  | 1 => bUpper
  | 2 => bDigit
  | 3 => bSign
  | 4 => bBang
  | 5 => setSymbol
  | _ => bQuote

theorem enters_f {f : Nat} {fn : Func} (hf : Tryd.prog.funcs[f]? = some fn) (hname : (fn.name == "runtime.NumGoroutine") = false) (hb : fn.body.isSome = true) (args : Array Value) (W : World) : (callFunc f args).run Tryd.prog W = .ok (.enter f args) W :=
  enters_ hf hname hb args W

theorem rule_any (g : Nat) (s0 k0 s1 k1 k3 k4 : Addr) (i : Nat) (hi : i < 7) (str : ByteArray) (c : UInt8) (r : List UInt8) (hl : bl str = c :: r) (hs : str.size ≤ 8192) (hno : ∀ j, j < i → (bl (begins j)).contains c = false) :
    ∃ (bg : ByteArray) (f : Nat) (cap : Array Value), bg = begins i ∧
      (∀ W, RulesAt W g s0 k0 s1 k1 k3 k4 → W.cell? ⟨g, i * 2, none⟩ = some (.string bg) ∧ W.cell? ⟨g, i * 2 + 1, none⟩ = some (.func (.func f) #[] cap)) ∧
      (∀ args W, (callFunc f args).run Tryd.prog W = .ok (.enter f args) W) ∧
      ((bl bg).contains c = true → ∀ W, RulesAt W g s0 k0 s1 k1 k3 k4 → LaidE W → Calls Tryd.prog f (#[.string str] ++ cap) W (RPost (bl str) W)) := by
  have n0 : 0 < i → Lx.lowerB c = false := fun h => hno 0 h
  have n1 : 1 < i → Lx.upperB c = false := fun h => hno 1 h
  have n2 : 2 < i → Lx.digitB c = false := fun h => hno 2 h
  have n3 : 3 < i → Lx.signB c = false := fun h => hno 3 h
  have n4 : 4 < i → Lx.bangB c = false := fun h => hno 4 h
  have n5 : 5 < i → Lx.symbolB c = false := fun h => hno 5 h
  have cells : ∀ (j : Nat) W, RulesAt W g s0 k0 s1 k1 k3 k4 → W.cell? ⟨g, j, none⟩ = _ := fun j W h => blk_cell h.row j
  match i, hi with
  | 0, _ =>
    refine ⟨bLower, _, _, rfl, fun W h => ⟨(cells 0 W h).trans rfl, (cells 1 W h).trans rfl⟩, enters_f Tryd.func113 (by kernel_rfl) rfl, fun hc W h _ => ?_⟩
    have hc' : Lx.lowerB c = true := hc
    refine call_of 1 str W s0 k0 hs h.c0 h.d0 ?_
    rw [hl]; simp only [Lx.take, hc', if_true]
  | 1, _ =>
    refine ⟨bUpper, _, _, rfl, fun W h => ⟨(cells 2 W h).trans rfl, (cells 3 W h).trans rfl⟩, enters_f Tryd.func113 (by kernel_rfl) rfl, fun hc W h _ => ?_⟩
    have hc' : Lx.upperB c = true := hc
    refine call_of 3 str W s1 k1 hs h.c1 h.d1 ?_
    rw [hl]; simp only [Lx.take, n0 (by omega), hc', if_true, Bool.false_eq_true, if_false]
  | 2, _ =>
    refine ⟨bDigit, _, _, rfl, fun W h => ⟨(cells 4 W h).trans rfl, (cells 5 W h).trans rfl⟩, enters_f Tryd.func85 (by kernel_rfl) rfl, fun hc W h hL => ?_⟩
    have hc' : Lx.digitB c = true := hc
    refine call_number str W hL c r hl hc' hs ?_
    simp only [Lx.take, n0 (by omega), n1 (by omega), hc', if_true, Bool.false_eq_true, if_false]
  | 3, _ =>
    refine ⟨bSign, _, _, rfl, fun W h => ⟨(cells 6 W h).trans rfl, (cells 7 W h).trans rfl⟩, enters_f Tryd.func115 (by kernel_rfl) rfl, fun hc W h _ => ?_⟩
    have hc' : Lx.signB c = true := hc
    refine call_one 5 str W k3 c r hl h.d3 ?_
    rw [hl]; simp only [Lx.take, n0 (by omega), n1 (by omega), n2 (by omega), hc', if_true, Bool.false_eq_true, if_false]
  | 4, _ =>
    refine ⟨bBang, _, _, rfl, fun W h => ⟨(cells 8 W h).trans rfl, (cells 9 W h).trans rfl⟩, enters_f Tryd.func115 (by kernel_rfl) rfl, fun hc W h _ => ?_⟩
    have hc' : Lx.bangB c = true := hc
    refine call_one 1 str W k4 c r hl h.d4 ?_
    rw [hl]; simp only [Lx.take, n0 (by omega), n1 (by omega), n2 (by omega), n3 (by omega), hc', if_true, Bool.false_eq_true, if_false]
  | 5, _ =>
    refine ⟨setSymbol, _, _, rfl, fun W h => ⟨(cells 10 W h).trans rfl, (cells 11 W h).trans rfl⟩, enters_f Tryd.func87 (by kernel_rfl) rfl, fun hc W h _ => ?_⟩
    have hc' : Lx.symbolB c = true := hc
    refine call_symbol str W c r hl hs ?_
    simp only [Lx.take, n0 (by omega), n1 (by omega), n2 (by omega), n3 (by omega), n4 (by omega), hc', if_true, Bool.false_eq_true, if_false]
  | 6, _ =>
    refine ⟨bQuote, _, _, rfl, fun W h => ⟨(cells 12 W h).trans rfl, (cells 13 W h).trans rfl⟩, enters_f Tryd.func88 (by kernel_rfl) rfl, fun hc W _ _ => ?_⟩
    have hc' : c = 39 := by
      have h : (([39] : List UInt8).contains c) = true := hc
      simpa using h
    subst hc'
    exact call_quote str W r hl hs

/-- Where no rule begins there is no token. -/
theorem rule_none (c : UInt8) (r : List UInt8) (hno : ∀ j, j < 7 → (bl (begins j)).contains c = false) : Lx.take (c :: r) = .error 10 := by
  have n0 : Lx.lowerB c = false := hno 0 (by omega)
  have n1 : Lx.upperB c = false := hno 1 (by omega)
  have n2 : Lx.digitB c = false := hno 2 (by omega)
  have n3 : Lx.signB c = false := hno 3 (by omega)
  have n4 : Lx.bangB c = false := hno 4 (by omega)
  have n5 : Lx.symbolB c = false := hno 5 (by omega)
  have n6 : c ≠ 39 := by
    have h : (([39] : List UInt8).contains c) = false := hno 6 (by omega)
    intro e
    subst e
    simp at h
  simp only [Lx.take, n0, n1, n2, n3, n4, n5, Bool.false_eq_true, if_false]
  rw [if_neg n6]
end Go.Proofs.YthnjdfblappkfaaDoor
