/-
  The document's name and number: what they give, in the writer's own plain words.
-/
import Derived.Test.YthnjdfblappkfaaDoorMQuoted
import Derived.Test.YthnjdfblappkfaaDoorMRefs
import Derived.Lib.ItoaNum
import Derived.Lib.ItoaLen
namespace Go.Proofs.YthnjdfblappkfaaDoor.RefW
open Go.RowKit Go.Proofs.YthnjdfblappkfaaDoor.P Go.Proofs.YthnjdfblappkfaaDoorW.PrintWords Go.Proofs.YthnjdfblappkfaaDoorW.PrintLast Go.Proofs.YthnjdfblappkfaaDoorW.PrintMore
open Go Go.Proofs.YthnjdfblappkfaaDoor

def Ev {α : Type} (f : Nat → Option α) (r : α) : Prop := ∃ k, ∀ n, k ≤ n → f n = some r
theorem Ev.steps {α : Type} {f g : Nat → Option α} {r : α} (c a : Nat) (h : Ev g r) (e : ∀ n, f (n + c) = g (n + a)) : Ev f r := by
  obtain ⟨k, hk⟩ := h
  refine ⟨k + c, fun n hn => ?_⟩
  obtain ⟨m, rfl⟩ : ∃ m, n = m + c := ⟨n - c, by omega⟩
  rw [e]; exact hk _ (by omega)
theorem Ev.nows {α : Type} {f : Nat → Option α} {r : α} (c : Nat) (e : ∀ n, f (n + c) = some r) : Ev f r :=
  ⟨c, fun n hn => by obtain ⟨m, rfl⟩ : ∃ m, n = m + c := ⟨n - c, by omega⟩; exact e m⟩
theorem Ev.bind {α β : Type} {f : Nat → Option α} {g : α → Nat → Option β} {a : α} {r : β} (h : Ev f a) (h2 : Ev (g a) r) : Ev (fun n => (f n).bind fun x => g x n) r := by
  obtain ⟨k, hk⟩ := h
  obtain ⟨k2, hk2⟩ := h2
  exact ⟨k + k2, fun n hn => by show (f n).bind _ = _; rw [hk n (by omega)]; exact hk2 n (by omega)⟩
theorem Ev.step {α : Type} {f g : Nat → Option α} {r : α} (h : Ev g r) (e : ∀ n, f (n + 1) = g n) : Ev f r := h.steps 1 0 (fun n => e n)
theorem Ev.of {α : Type} {f : Nat → Option α} {r : α} (k : Nat) (h : f k = some r) (mono : ∀ n, f n = some r → f (n + 1) = some r) : Ev f r :=
  ⟨k, fun n hn => by
    obtain ⟨m, rfl⟩ : ∃ m, n = k + m := ⟨n - k, by omega⟩
    clear hn
    induction m with
    | zero => exact h
    | succ m ih => exact mono _ ih⟩

theorem byteAll (q : UInt8 → Bool) (h : (List.range 256).all (fun n => q (UInt8.ofNat n)) = true) (b : UInt8) : q b = true := by
  have := List.all_eq_true.1 h b.toNat (List.mem_range.2 b.toNat_lt)
  simpa using this
theorem lower_f (b : UInt8) : resolventref06_Lower.f (b.toNat : Int) = some (inSet lowers b) := by
  have := byteAll (fun b => decide (resolventref06_Lower.f (b.toNat : Int) = some (inSet lowers b))) (by kernel_rfl) b
  simpa using this
theorem letter_f (b : UInt8) : resolventref06_Letter.f (b.toNat : Int) = some (inSet letters b) := by
  have := byteAll (fun b => decide (resolventref06_Letter.f (b.toNat : Int) = some (inSet letters b))) (by kernel_rfl) b
  simpa using this
theorem symbol_ev (b : UInt8) : Ev (fun k => resolventref06_Symbol.f k (b.toNat : Int)) (inSet symbols b) := by
  have := byteAll (fun b => decide (resolventref06_Symbol.f 20 (b.toNat : Int) = some (inSet symbols b))) (by kernel_rfl) b
  exact Ev.of 20 (by simpa using this) (fun n h => resolventref06_Symbol.mono _ n _ h)
theorem lower_no_symbol (b : UInt8) (h : inSet lowers b = true) : inSet symbols b = false := by
  have := byteAll (fun b => !inSet lowers b || !inSet symbols b) (by kernel_rfl) b
  simpa [h] using this

theorem at_drop (x : ByteArray) (i : Nat) (h : i < x.size) : ∃ b, (bl x).drop i = b :: (bl x).drop (i + 1) ∧ bt x (i : Int) = (b.toNat : Int) := by
  refine ⟨x[i], ?_, ?_⟩
  · have := List.drop_eq_getElem_cons (l := bl x) (i := i) (by rw [bl_length]; exact h)
    rw [this]; rfl
  · unfold bt
    rw [dif_pos (by simpa using h)]; rfl

theorem wrap_small {i : Int} (h0 : -9223372036854775808 ≤ i) (h1 : i ≤ 9223372036854775807) : wrap64 i = i := by unfold wrap64; omega

/-- The loop over a name's bytes. -/
theorem plain_loop (s : ByteArray) (hs : s.size ≤ 1099511627776) : ∀ (d i : Nat) (a b : Bool), s.size - i ≤ d → i ≤ s.size →
    Ev (fun k => resolventref08_plain.l0 k s a b (i : Int)) (a && ((bl s).drop i).all (inSet letters) || b && ((bl s).drop i).all (inSet symbols)) := by
  intro d
  induction d with
  | zero =>
    intro i a b hd hi
    obtain rfl : i = s.size := by omega
    have hn : (bl s).drop s.size = [] := List.drop_eq_nil_iff.2 (Nat.le_of_eq (bl_length s))
    rw [hn]
    refine Ev.nows 1 fun n => ?_
    simp only [resolventref08_plain.l0]
    rw [if_neg (by omega)]
    cases a <;> simp
  | succ d ih =>
    intro i a b hd hi
    by_cases hlt : i < s.size
    · obtain ⟨c, hdr, hb⟩ := at_drop s i hlt
      have hw : wrap64 ((i : Int) + 1) = ((i + 1 : Nat) : Int) := wrap_small (by omega) (by omega)
      have ih' := fun a b => ih (i + 1) a b (by omega) (by omega)
      rw [hdr, List.all_cons, List.all_cons]
      cases a with
      | true =>
        cases b with
        | true =>
          refine Ev.step (g := fun n => (resolventref06_Symbol.f n (c.toNat : Int)).bind fun u => resolventref08_plain.l0 n s (inSet letters c) u ((i + 1 : Nat) : Int)) (Ev.bind (symbol_ev c) ?_) (fun n => ?_)
          · simp only [Bool.true_and]
            exact ih' _ _
          · simp only [resolventref08_plain.l0]
            rw [if_pos (by omega), if_pos trivial, if_pos (by omega), hb, letter_f, Option.bind_some, if_pos trivial, hw]
        | false =>
          refine Ev.step (g := fun n => resolventref08_plain.l0 n s (inSet letters c) false ((i + 1 : Nat) : Int)) ?_ (fun n => ?_)
          · have := ih' (inSet letters c) false
            simp only [Bool.true_and, Bool.false_and] at this ⊢
            exact this
          · simp only [resolventref08_plain.l0]
            rw [if_pos (by omega), if_pos trivial, if_pos (by omega), hb, letter_f, Option.bind_some, if_neg (by decide), hw]
      | false =>
        cases b with
        | true =>
          refine Ev.step (g := fun n => (resolventref06_Symbol.f n (c.toNat : Int)).bind fun u => resolventref08_plain.l0 n s false u ((i + 1 : Nat) : Int)) (Ev.bind (symbol_ev c) ?_) (fun n => ?_)
          · have := ih' false (inSet symbols c)
            simp only [Bool.true_and, Bool.false_and] at this ⊢
            exact this
          · simp only [resolventref08_plain.l0]
            rw [if_pos (by omega), if_neg (by decide), if_pos trivial, if_pos (by omega), hb, hw]
        | false =>
          refine Ev.step (g := fun n => resolventref08_plain.l0 n s false false ((i + 1 : Nat) : Int)) ?_ (fun n => ?_)
          · have := ih' false false
            simp only [Bool.false_and] at this ⊢
            exact this
          · simp only [resolventref08_plain.l0]
            rw [if_pos (by omega), if_neg (by decide), if_neg (by decide), hw]
    · exact ih i a b (by omega) hi

theorem tl (s : ByteArray) : s.toList = bl s := ByteArray.toList_eq s
theorem plain_ev (s : ByteArray) (hs : s.size ≤ 1099511627776) : Ev (fun k => resolventref08_plain.f k s) (plainM (bl s)) := by
  have j0t : Ev (fun k => resolventref08_plain.j0 k s true) false := Ev.nows 1 fun n => by simp only [resolventref08_plain.j0]; rw [if_pos trivial]
  have j1t : Ev (fun k => resolventref08_plain.j1 k s true) true := Ev.nows 1 fun n => by simp only [resolventref08_plain.j1]; rw [if_pos trivial]
  unfold plainM
  by_cases e0 : bl s = []
  · rw [if_pos (.inl e0)]
    refine Ev.steps 0 0 j0t fun n => ?_
    unfold resolventref08_plain.f
    rw [tl, if_pos e0]
  by_cases e1 : bl s = [46]
  · rw [if_pos (.inr (.inl e1))]
    refine Ev.steps 0 0 j0t fun n => ?_
    unfold resolventref08_plain.f
    rw [tl, if_neg e0, if_pos e1]
  obtain ⟨c, r, hcr⟩ : ∃ c r, bl s = c :: r := by
    cases h : bl s with
    | nil => exact absurd h e0
    | cons c r => exact ⟨c, r, rfl⟩
  have hsz : s.size = r.length + 1 := by rw [← bl_length, hcr]; rfl
  obtain ⟨c', hd0, hb0⟩ := at_drop s 0 (by omega)
  rw [List.drop_zero, hcr] at hd0
  obtain rfl : c = c' := (List.cons.inj hd0).1
  have hf : Ev (fun k => resolventref08_plain.j0 k s (([47, 42] : List UInt8).isPrefixOf (bl s))) (if ([47, 42] : List UInt8).isPrefixOf (bl s) = true then false else if bl s = [33] ∨ bl s = [59] ∨ bl s = [91, 93] then true else if inSet lowers ((bl s).headD 0) = true then (bl s).all (inSet letters) else (bl s).all (inSet symbols)) := by
    cases hp : ([47, 42] : List UInt8).isPrefixOf (bl s) with
    | true => exact j0t
    | false =>
      by_cases e3 : bl s = [33]
      · rw [if_neg (by decide), if_pos (.inl e3)]
        refine Ev.step j1t fun n => ?_
        simp only [resolventref08_plain.j0]
        rw [if_neg (by decide), tl, if_pos e3]
      by_cases e4 : bl s = [59]
      · rw [if_neg (by decide), if_pos (.inr (.inl e4))]
        refine Ev.step j1t fun n => ?_
        simp only [resolventref08_plain.j0]
        rw [if_neg (by decide), tl, if_neg e3, if_pos e4]
      by_cases e5 : bl s = [91, 93]
      · rw [if_neg (by decide), if_pos (.inr (.inr e5))]
        refine Ev.step j1t fun n => ?_
        simp only [resolventref08_plain.j0]
        rw [if_neg (by decide), tl, if_neg e3, if_neg e4, show (bl s == [91, 93]) = true by rw [e5]; rfl]
      · rw [if_neg (by decide), if_neg (by simp [e3, e4, e5])]
        have hl := plain_loop s hs s.size 0 (inSet lowers c) true (by omega) (by omega)
        have hv : (inSet lowers c && ((bl s).drop 0).all (inSet letters) || true && ((bl s).drop 0).all (inSet symbols)) = (if inSet lowers ((bl s).headD 0) = true then (bl s).all (inSet letters) else (bl s).all (inSet symbols)) := by
          rw [List.drop_zero, hcr]
          cases hlo : inSet lowers c with
          | true =>
            have hns := lower_no_symbol c hlo
            simp [hlo, hns]
          | false => simp [hlo]
        rw [hv] at hl
        refine Ev.steps 2 0 hl fun n => ?_
        show resolventref08_plain.j0 (n + 1 + 1) s false = _
        simp only [resolventref08_plain.j0]
        rw [if_neg (by decide), tl, if_neg e3, if_neg e4, show (bl s == [91, 93]) = false by simpa using e5]
        simp only [resolventref08_plain.j1]
        rw [if_neg (by decide), if_pos (by omega), show (0 : Int) = ((0 : Nat) : Int) from rfl, hb0, lower_f, Option.bind_some]
        rfl
  rw [show (if bl s = [] ∨ bl s = [46] ∨ ([47, 42] : List UInt8).isPrefixOf (bl s) = true then false else if bl s = [33] ∨ bl s = [59] ∨ bl s = [91, 93] then true else if inSet lowers ((bl s).headD 0) = true then (bl s).all (inSet letters) else (bl s).all (inSet symbols)) = (if ([47, 42] : List UInt8).isPrefixOf (bl s) = true then false else if bl s = [33] ∨ bl s = [59] ∨ bl s = [91, 93] then true else if inSet lowers ((bl s).headD 0) = true then (bl s).all (inSet letters) else (bl s).all (inSet symbols)) by simp only [e0, e1, false_or]]
  refine Ev.steps 0 0 hf fun n => ?_
  unfold resolventref08_plain.f
  rw [tl, if_neg e0, if_neg e1]
  by_cases h2 : (s.size : Int) ≥ 2
  · rw [if_pos h2, if_pos (by omega)]
    obtain ⟨c2, hd1, hb1⟩ := at_drop s 1 (by omega)
    have hr2 : bl s = c :: c2 :: (bl s).drop 2 := by
      have := hd1
      rw [hcr] at this ⊢
      simp only [List.drop_succ_cons, List.drop_zero] at this ⊢
      rw [this]
      rfl
    by_cases h47 : bt s (0 : Int) = 47
    · rw [if_pos h47, if_pos (by omega)]
      have hc47 : c = 47 := UInt8.toNat_inj.1 (by
        have : (c.toNat : Int) = 47 := hb0.symm.trans h47
        show c.toNat = 47
        omega)
      have : (bt s (1 : Int) == 42) = ([47, 42] : List UInt8).isPrefixOf (bl s) := by
        rw [show (1 : Int) = ((1 : Nat) : Int) from rfl, hb1, hr2, hc47]
        have := byteAll (fun b => ((b.toNat : Int) == 42) == (42 == b)) (by kernel_rfl) c2
        rw [show ((c2.toNat : Int) == 42) = ((42 : UInt8) == c2) by simpa using this]
        simp [List.isPrefixOf]
      rw [this]
    · rw [if_neg h47]
      have : ([47, 42] : List UInt8).isPrefixOf (bl s) = false := by
        rw [hr2]
        have hne : c ≠ 47 := by
          rintro rfl
          exact h47 hb0
        simp [List.isPrefixOf, Ne.symm hne]
      rw [this]
  · rw [if_neg h2]
    have : ([47, 42] : List UInt8).isPrefixOf (bl s) = false := by
      have hr0 : r = [] := List.length_eq_zero_iff.1 (by omega)
      rw [hcr, hr0]
      simp [List.isPrefixOf]
    rw [this]

/-- What is written between quotes. -/
theorem quoted_loop (s : ByteArray) (hs : s.size ≤ 1099511627776) : ∀ (d i : Nat) (out : ByteArray), s.size - i ≤ d → i ≤ s.size → out.size ≤ 4 * 1099511627776 + 10 → out.size + 2 * d ≤ 4 * 1099511627776 + 10 →
    Ev (fun k => resolventref08_quoted.l0 k s out (i : Int)) (⟨(bl out ++ ((bl s).drop i).flatMap escB ++ [39]).toArray⟩) := by
  have app : ∀ (a : ByteArray) (l : List UInt8), a ++ (⟨l.toArray⟩ : ByteArray) = ⟨(bl a ++ l).toArray⟩ := fun a l => by
    apply bl_ext
    simp [bl]
  have asz : ∀ (a : ByteArray) (l : List UInt8), (⟨(bl a ++ l).toArray⟩ : ByteArray).size = a.size + l.length := fun a l => by
    show (bl a ++ l).length = _
    rw [List.length_append, bl_length]
  intro d
  induction d with
  | zero =>
    intro i out hd hi ho _
    obtain rfl : i = s.size := by omega
    have hn : (bl s).drop s.size = [] := List.drop_eq_nil_iff.2 (Nat.le_of_eq (bl_length s))
    rw [hn]
    refine Ev.nows 1 fun n => ?_
    simp only [resolventref08_quoted.l0]
    rw [if_neg (by omega)]
    rw [if_pos (by omega), show (⟨#[39]⟩ : ByteArray) = ⟨[39].toArray⟩ from rfl, app]
    simp
  | succ d ih =>
    intro i out hd hi ho ho2
    by_cases hlt : i < s.size
    · obtain ⟨c, hdr, hb⟩ := at_drop s i hlt
      have hw : wrap64 ((i : Int) + 1) = ((i + 1 : Nat) : Int) := wrap_small (by omega) (by omega)
      have key : ∀ l : List UInt8, escB c = l → l.length ≤ 2 → (∀ n, resolventref08_quoted.l0 (n + 1) s out (i : Int) = resolventref08_quoted.l0 n s (⟨(bl out ++ l).toArray⟩) ((i + 1 : Nat) : Int)) →
          Ev (fun k => resolventref08_quoted.l0 k s out (i : Int)) (⟨(bl out ++ ((bl s).drop i).flatMap escB ++ [39]).toArray⟩) := by
        intro l hl hll he
        have := ih (i + 1) ⟨(bl out ++ l).toArray⟩ (by omega) (by omega) (by rw [asz]; omega) (by rw [asz]; omega)
        rw [hdr, List.flatMap_cons, hl]
        refine Ev.step ?_ he
        rw [bl_mk] at this
        rw [← List.append_assoc]
        exact this
      have hbc : ∀ k : UInt8, ((c.toNat : Int) = (k.toNat : Int)) ↔ c = k := fun k => ⟨fun h => UInt8.toNat_inj.1 (by omega), fun h => by rw [h]⟩
      have h39 : ((c.toNat : Int) = 39) ↔ c = 39 := hbc 39
      have h92 : ((c.toNat : Int) = 92) ↔ c = 92 := hbc 92
      have h10 : ((c.toNat : Int) = 10) ↔ c = 10 := hbc 10
      have h9 : ((c.toNat : Int) = 9) ↔ c = 9 := hbc 9
      by_cases c39 : c = 39
      · refine key [39, 39] (by rw [c39]; rfl) (by decide) fun n => ?_
        simp only [resolventref08_quoted.l0]
        rw [if_pos (by omega), if_pos (by omega), hb, if_pos (h39.2 c39), if_pos (by omega), hw, show (⟨#[39, 39]⟩ : ByteArray) = ⟨[39, 39].toArray⟩ from rfl, app]
      by_cases c92 : c = 92
      · refine key [92, 92] (by rw [c92]; rfl) (by decide) fun n => ?_
        simp only [resolventref08_quoted.l0]
        rw [if_pos (by omega), if_pos (by omega), hb, if_neg (fun h => c39 (h39.1 h)), if_pos (h92.2 c92), Option.bind_some, show (strOfNums [92, 92]) = ⟨[92, 92].toArray⟩ from rfl, if_pos (by show out.size + 2 ≤ _; omega), hw, app]
      by_cases c10 : c = 10
      · refine key [92, 110] (by rw [c10]; rfl) (by decide) fun n => ?_
        simp only [resolventref08_quoted.l0]
        rw [if_pos (by omega), if_pos (by omega), hb, if_neg (fun h => c39 (h39.1 h)), if_neg (fun h => c92 (h92.1 h)), if_pos (h10.2 c10), Option.bind_some, show (strOfNums [92, 110]) = ⟨[92, 110].toArray⟩ from rfl, if_pos (by show out.size + 2 ≤ _; omega), hw, app]
      by_cases c9 : c = 9
      · refine key [92, 116] (by rw [c9]; rfl) (by decide) fun n => ?_
        simp only [resolventref08_quoted.l0]
        rw [if_pos (by omega), if_pos (by omega), hb, if_neg (fun h => c39 (h39.1 h)), if_neg (fun h => c92 (h92.1 h)), if_neg (fun h => c10 (h10.1 h)), if_pos (h9.2 c9), Option.bind_some, show (strOfNums [92, 116]) = ⟨[92, 116].toArray⟩ from rfl, if_pos (by show out.size + 2 ≤ _; omega), hw, app]
      · have hx : s.extract ((i : Int)).toNat (((i + 1 : Nat) : Int)).toNat = ⟨[c].toArray⟩ := by
          apply bl_ext
          rw [Int.toNat_natCast, Int.toNat_natCast, bl_extract, List.drop_take, hdr, show i + 1 - i = 1 by omega]
          rfl
        refine key [c] (by unfold escB; rw [if_neg c39, if_neg c92, if_neg c10, if_neg c9]) (by simp) fun n => ?_
        simp only [resolventref08_quoted.l0]
        rw [if_pos (by omega), if_pos (by omega), hb, if_neg (fun h => c39 (h39.1 h)), if_neg (fun h => c92 (h92.1 h)), if_neg (fun h => c10 (h10.1 h)), if_neg (fun h => c9 (h9.1 h)), hw, if_pos (by omega), if_pos (by omega), hx, if_pos (by show out.size + 1 ≤ _; omega), app]
    · exact ih i out (by omega) hi ho (by omega)

theorem quoted_ev (s : ByteArray) (hs : s.size ≤ 1099511627776) : Ev (fun k => resolventref08_quoted.f k s) (⟨(quotedL (bl s)).toArray⟩) := by
  have := quoted_loop s hs s.size 0 ⟨#[39]⟩ (by omega) (by omega) (by show 1 ≤ _; omega) (by show 1 + _ ≤ _; omega)
  exact this
theorem Name_ev (s : ByteArray) (hs : s.size ≤ 1099511627776) : Ev (fun k => resolventref08_Name.f k s) (⟨(nameM (bl s)).toArray⟩) := by
  unfold resolventref08_Name.f nameM
  refine Ev.bind (plain_ev s hs) ?_
  cases plainM (bl s) with
  | true =>
    refine Ev.nows 0 fun n => ?_
    rw [if_pos rfl, if_pos rfl]
  | false =>
    have := quoted_ev s hs
    refine Ev.steps 0 0 this fun n => ?_
    show ((resolventref08_quoted.f (n + 0) s).bind fun t191 => some t191) = resolventref08_quoted.f (n + 0) s
    cases resolventref08_quoted.f (n + 0) s <;> rfl

theorem Name_calls (s : ByteArray) (w : World) (hs : s.size ≤ 1099511627776) :
    Calls Tryd.prog 18 #[.string s] w fun e w' => e = .returned (.string ⟨(nameM (bl s)).toArray⟩) ∧ Below w.heap.size w w' := by
  obtain ⟨k, hk⟩ := Name_ev s hs
  exact resolventref08_Name.calls k s _ w (hk k (Nat.le_refl _))

theorem u64w (x : Int) : IntKind.u64.wrap x = x % 18446744073709551616 := by
  simp [IntKind.wrap, IntKind.bits, IntKind.signed]
theorem uw (m : Nat) (h : m < 18446744073709551616) : IntKind.u64.wrap (m : Int) = (m : Int) := by
  rw [u64w]
  omega
theorem dig_num (m : Nat) (h : m < 10) : strOfNums [(IntKind.u64.wrap (48 + (m : Int))) % 256] = ⟨[UInt8.ofNat (48 + m)].toArray⟩ := by
  rw [u64w]
  match m, h with
  | 0, _ | 1, _ | 2, _ | 3, _ | 4, _ | 5, _ | 6, _ | 7, _ | 8, _ | 9, _ => rfl
theorem app2 (l : List UInt8) (a : ByteArray) : (⟨l.toArray⟩ : ByteArray) ++ a = ⟨(l ++ bl a).toArray⟩ := by
  apply bl_ext
  simp [bl]

theorem tmod10 (n : Nat) : Int.tmod (n : Int) 10 = ((n % 10 : Nat) : Int) := rfl
theorem tdiv10 (n : Nat) : Int.tdiv (n : Int) 10 = ((n / 10 : Nat) : Int) := rfl
theorem one_size (b : UInt8) : (⟨[b].toArray⟩ : ByteArray).size = 1 := rfl

theorem digits_loop : ∀ (d n : Nat), n < 10 ^ (d + 1) → n < 18446744073709551616 → ∀ out : ByteArray, out.size + d ≤ 100 →
    Ev (fun k => resolventref08_digits.l0 k (n : Int) out) (⟨(Lib.decDigits n ++ bl out).toArray⟩) := by
  intro d
  induction d with
  | zero =>
    intro n hn hn2 out ho
    have hn10 : n < 10 := by simpa using hn
    rw [Lib.decDigits, dif_pos hn10]
    by_cases he : out.toList = []
    · refine Ev.nows 2 fun k => ?_
      show resolventref08_digits.l0 (k + 1 + 1) _ _ = _
      simp only [resolventref08_digits.l0]
      rw [if_neg (by omega), if_pos he, show decide ((n : Int) ≥ 0) = true by simp]
      simp only [resolventref08_digits.j1]
      rw [if_pos trivial, Option.bind_some, tmod10, tdiv10, Nat.mod_eq_of_lt hn10, Nat.div_eq_of_lt hn10, dig_num n hn10, one_size, if_pos (by omega), if_pos (by decide), app2]
    · refine Ev.nows 2 fun k => ?_
      show resolventref08_digits.l0 (k + 1 + 1) _ _ = _
      simp only [resolventref08_digits.l0]
      rw [if_neg (by omega), if_neg he]
      simp only [resolventref08_digits.j1]
      rw [if_neg (by decide), Option.bind_some, dig_num n hn10, one_size, if_pos (by omega), app2]
  | succ d ih =>
    intro n hn hn2 out ho
    by_cases h10 : n < 10
    · exact ih n (Nat.lt_of_lt_of_le h10 (by rw [Nat.pow_succ]; have := Nat.pow_pos (n := d) (show 0 < 10 by decide); omega)) hn2 out (by omega)
    · rw [Lib.decDigits, dif_neg h10]
      have hq : n / 10 < 10 ^ (d + 1) := by
        rw [Nat.pow_succ] at hn
        omega
      have hm : n % 10 < 10 := Nat.mod_lt _ (by decide)
      have hs : (⟨([UInt8.ofNat (48 + n % 10)] ++ bl out).toArray⟩ : ByteArray).size = 1 + out.size := by
        show ([UInt8.ofNat (48 + n % 10)] ++ bl out).length = _
        rw [List.length_append, bl_length]
        rfl
      have := ih (n / 10) hq (by omega) ⟨([UInt8.ofNat (48 + n % 10)] ++ bl out).toArray⟩ (by rw [hs]; omega)
      rw [bl_mk, ← List.append_assoc] at this
      refine Ev.steps 2 0 this fun k => ?_
      show resolventref08_digits.l0 (k + 1 + 1) _ _ = _
      simp only [resolventref08_digits.l0]
      rw [if_pos (by omega)]
      simp only [resolventref08_digits.j1]
      rw [if_pos trivial, Option.bind_some, tmod10, tdiv10, dig_num _ hm, one_size, if_pos (by omega), uw _ (by omega), if_neg (by omega), app2]
      rfl

theorem digits_ev (n : Nat) (hn : n < 18446744073709551616) : Ev (fun k => resolventref08_digits.f k (n : Int)) (⟨(Lib.decDigits n).toArray⟩) := by
  have := digits_loop 20 n (Nat.lt_trans hn (by decide)) hn ⟨#[]⟩ (by decide)
  rw [show bl (⟨#[]⟩ : ByteArray) = [] from rfl, List.append_nil] at this
  exact this

theorem Number_ev (n : Int) (h0 : -9223372036854775808 ≤ n) (h1 : n ≤ 9223372036854775807) : Ev (fun k => resolventref08_Number.f k n) (⟨(Lib.itoa n).toArray⟩) := by
  unfold resolventref08_Number.f Lib.itoa
  by_cases hn : n < 0
  · obtain ⟨m, rfl⟩ : ∃ m : Nat, n = -(m : Int) := ⟨n.natAbs, by omega⟩
    have hw : IntKind.u64.wrap ((IntKind.u64.wrap (wrap64 (-(wrap64 (-(m : Int) + 1))))) + 1) = (m : Int) := by
      rw [wrap_small (i := -(m : Int) + 1) (by omega) (by omega), wrap_small (by omega) (by omega), show -(-(m : Int) + 1) = ((m - 1 : Nat) : Int) by omega, uw _ (by omega), show ((m - 1 : Nat) : Int) + 1 = (m : Int) by omega, uw _ (by omega)]
    have hab : (-(m : Int)).natAbs = m := by omega
    obtain ⟨k, hk⟩ := digits_ev m (by omega)
    have hl := Lib.itoa_length_le (-(m : Int)) h0 h1
    unfold Lib.itoa at hl
    rw [if_pos hn, hab, List.length_cons] at hl
    refine ⟨k, fun j hj => ?_⟩
    show (if (-(m : Int)) < 0 then _ else _) = _
    have hkj : resolventref08_digits.f j (m : Int) = _ := hk j hj
    rw [if_pos hn, hw, hkj, if_pos hn, Option.bind_some, hab, show (⟨(Lib.decDigits m).toArray⟩ : ByteArray).size = (Lib.decDigits m).length from rfl, if_pos (by omega)]
    congr 1
  · obtain ⟨m, rfl⟩ : ∃ m : Nat, n = (m : Int) := ⟨n.toNat, by omega⟩
    obtain ⟨k, hk⟩ := digits_ev m (by omega)
    refine ⟨k, fun j hj => ?_⟩
    show (if (m : Int) < 0 then _ else _) = _
    have hkj : resolventref08_digits.f j (m : Int) = _ := hk j hj
    rw [if_neg hn, uw _ (by omega), hkj, if_neg hn, Int.toNat_natCast]
    rfl

theorem Number_calls (n : Int) (h0 : -9223372036854775808 ≤ n) (h1 : n ≤ 9223372036854775807) (w : World) :
    Calls Tryd.prog 65 #[.int .i64 n] w fun e w' => e = .returned (.string ⟨(Lib.itoa n).toArray⟩) ∧ Below w.heap.size w w' := by
  obtain ⟨k, hk⟩ := Number_ev n h0 h1
  exact resolventref08_Number.calls k n _ w (hk k (Nat.le_refl _))
end Go.Proofs.YthnjdfblappkfaaDoor.RefW
