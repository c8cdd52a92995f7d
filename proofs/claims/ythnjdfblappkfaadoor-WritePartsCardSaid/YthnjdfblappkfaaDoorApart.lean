/-
  Terms that are not alike have other texts; names, too: the plain half.
-/
import Derived.Test.YthnjdfblappkfaaDoorMBound
namespace Go.Proofs.YthnjdfblappkfaaDoor.RefW
open Go.RowKit Go.Proofs.YthnjdfblappkfaaDoor.P Go.Proofs.YthnjdfblappkfaaDoorW.PrintWords Go.Proofs.YthnjdfblappkfaaDoorW.PrintLast Go.Proofs.YthnjdfblappkfaaDoorW.PrintMore
open Go Go.Proofs.YthnjdfblappkfaaDoor

/-! ### Numerals -/
def numVal (l : List UInt8) : Nat := l.foldl (fun a b => a * 10 + (b.toNat - 48)) 0
theorem numVal_dec (u : Nat) : numVal (Lib.decDigits u) = u := by
  induction u using Nat.strongRecOn with
  | _ u ih =>
    by_cases h : u < 10
    · rw [Lib.decDigits_one h]
      simp only [numVal, List.foldl_cons, List.foldl_nil, UInt8.toNat_ofNat']
      omega
    · rw [Lib.decDigits, dif_neg h]
      have := ih (u / 10) (by omega)
      unfold numVal at this ⊢
      rw [List.foldl_append, this]
      simp only [List.foldl_cons, List.foldl_nil, UInt8.toNat_ofNat']
      omega
def digB (b : UInt8) : Bool := decide (48 ≤ b) && decide (b ≤ 57)
theorem dig_of (n : Nat) (h : n < 10) : digB (UInt8.ofNat (48 + n)) = true := by
  have : ∀ k : Fin 10, digB (UInt8.ofNat (48 + k.val)) = true := by decide
  exact this ⟨n, h⟩
theorem decDigits_all (u : Nat) : (Lib.decDigits u).all digB = true ∧ Lib.decDigits u ≠ [] := by
  induction u using Nat.strongRecOn with
  | _ u ih =>
    by_cases h : u < 10
    · rw [Lib.decDigits_one h]
      refine ⟨?_, by simp⟩
      rw [List.all_cons, dig_of u h]
      rfl
    · rw [Lib.decDigits, dif_neg h]
      obtain ⟨h1, _⟩ := ih (u / 10) (by omega)
      refine ⟨?_, by simp⟩
      rw [List.all_append, h1, List.all_cons, dig_of (u % 10) (by omega)]
      rfl
/-- How a numeral begins. -/
def isNum (l : List UInt8) : Bool :=
  match l with
  | [] => false
  | b :: l => digB b || (b == 45 && (match l with | [] => false | c :: _ => digB c))
theorem itoa_isNum (n : Int) : isNum (Lib.itoa n) = true := by
  unfold Lib.itoa
  split
  · obtain ⟨h1, h2⟩ := decDigits_all n.natAbs
    cases hd : Lib.decDigits n.natAbs with
    | nil => exact absurd hd h2
    | cons b l =>
      rw [hd, List.all_cons, Bool.and_eq_true] at h1
      simp only [isNum, h1.1]
      decide
  · obtain ⟨h1, h2⟩ := decDigits_all n.toNat
    cases hd : Lib.decDigits n.toNat with
    | nil => exact absurd hd h2
    | cons b l =>
      rw [hd, List.all_cons, Bool.and_eq_true] at h1
      simp only [isNum, h1.1]
      rfl
theorem itoa_inj (n m : Int) (h : Lib.itoa n = Lib.itoa m) : n = m := by
  have hne : ∀ (u : Nat) (l : List UInt8), Lib.decDigits u ≠ 45 :: l := fun u l e => by
    have := (decDigits_all u).1
    rw [e, List.all_cons, Bool.and_eq_true] at this
    exact absurd this.1 (by decide)
  unfold Lib.itoa at h
  split at h <;> split at h
  · have := congrArg numVal (List.cons.inj h).2
    rw [numVal_dec, numVal_dec] at this
    omega
  · exact absurd h.symm (hne _ _)
  · exact absurd h (hne _ _)
  · have := congrArg numVal h
    rw [numVal_dec, numVal_dec] at this
    omega

/-! ### Heads of texts -/
/-- The bytes of plain names, numbers and variables. -/
def tokB (b : UInt8) : Bool := inSet letters b || inSet symbols b || b == 33 || b == 59
def stopB (b : UInt8) : Bool := b == 40 || b == 41 || b == 44 || b == 93 || b == 124
/-- What stands behind a term within a text. -/
def Dl : List UInt8 → Prop
  | [] => True
  | b :: _ => b = 41 ∨ b = 44 ∨ b = 93 ∨ b = 124
def Stop : List UInt8 → Prop
  | [] => True
  | b :: _ => stopB b = true
theorem Dl.stop {l : List UInt8} (h : Dl l) : Stop l := by
  cases l with
  | nil => trivial
  | cons b l =>
    show stopB b = true
    rcases h with rfl | rfl | rfl | rfl <;> rfl
theorem stop_not_tok (b : UInt8) (h : stopB b = true) : tokB b = false := by
  have := bytesAll (fun b => !stopB b || !tokB b) (by kernel_rfl) b
  rw [h] at this
  simpa using this
theorem dig_tok (b : UInt8) (h : digB b = true) : tokB b = true := by
  have := bytesAll (fun b => !digB b || tokB b) (by kernel_rfl) b
  rw [h] at this
  simpa using this
theorem tok_take (h t : List UInt8) (hh : h.all tokB = true) (ht : Stop t) : (h ++ t).takeWhile tokB = h := by
  rw [List.takeWhile_append_of_pos (List.all_eq_true.1 hh)]
  cases t with
  | nil => simp
  | cons b t => rw [List.takeWhile_cons_of_neg (by rw [stop_not_tok b ht]; decide), List.append_nil]

theorem escB_inj (b c : UInt8) (X Y : List UInt8) (h : escB b ++ X = escB c ++ Y) : b = c ∧ X = Y := by
  unfold escB at h
  split at h <;> split at h <;> (try split at h) <;> (try split at h) <;> (try split at h) <;> (try split at h) <;> (try split at h) <;> (try split at h) <;> simp_all
theorem escB_head (b : UInt8) (X Y : List UInt8) (h : 39 :: X = escB b ++ Y) : b = 39 ∧ X = 39 :: Y := by
  unfold escB at h
  split at h
  · simp_all
  · split at h
    · simp at h
    · split at h
      · simp at h
      · split at h
        · simp at h
        · simp only [List.cons_append, List.cons.injEq] at h
          simp_all
def NotQ : List UInt8 → Prop
  | [] => True
  | b :: _ => b ≠ 39
theorem Stop.notq {l : List UInt8} (h : Stop l) : NotQ l := by
  cases l with
  | nil => trivial
  | cons b l =>
    rintro rfl
    exact absurd (show stopB 39 = true from h) (by decide)
theorem quoted_uniq : ∀ (l m t u : List UInt8), NotQ t → NotQ u → l.flatMap escB ++ 39 :: t = m.flatMap escB ++ 39 :: u → l = m ∧ t = u
  | [], [], t, u, _, _, h => ⟨rfl, by simpa using h⟩
  | [], c :: m, t, u, ht, _, h => by
    rw [List.flatMap_nil, List.nil_append, List.flatMap_cons, List.append_assoc] at h
    obtain ⟨_, e⟩ := escB_head _ _ _ h
    rw [e] at ht
    exact absurd rfl ht
  | b :: l, [], t, u, _, hu, h => by
    rw [List.flatMap_nil, List.nil_append, List.flatMap_cons, List.append_assoc] at h
    obtain ⟨_, e⟩ := escB_head _ _ _ h.symm
    rw [e] at hu
    exact absurd rfl hu
  | b :: l, c :: m, t, u, ht, hu, h => by
    rw [List.flatMap_cons, List.flatMap_cons, List.append_assoc, List.append_assoc] at h
    obtain ⟨rfl, e⟩ := escB_inj _ _ _ _ h
    obtain ⟨rfl, rfl⟩ := quoted_uniq l m t u ht hu e
    exact ⟨rfl, rfl⟩
theorem quotedL_uniq (l m t u : List UInt8) (ht : NotQ t) (hu : NotQ u) (h : quotedL l ++ t = quotedL m ++ u) : l = m ∧ t = u := by
  unfold quotedL at h
  simp only [List.cons_append, List.append_assoc, List.nil_append, List.cons.injEq, true_and] at h
  exact quoted_uniq l m t u ht hu h

def HeadOK (h : List UInt8) : Prop := (h ≠ [] ∧ h.all tokB = true) ∨ (∃ l, h = quotedL l) ∨ h = [91, 93]
theorem tok_first {h t : List UInt8} {b : UInt8} {c : List UInt8} (h0 : h ≠ []) (h1 : h.all tokB = true) (e : h ++ t = b :: c) : tokB b = true := by
  cases h with
  | nil => exact absurd rfl h0
  | cons a h =>
    rw [List.cons_append] at e
    rw [List.all_cons, Bool.and_eq_true] at h1
    rw [← (List.cons.inj e).1]
    exact h1.1
theorem head_uniq {h1 h2 t1 t2 : List UInt8} (H1 : HeadOK h1) (H2 : HeadOK h2) (s1 : Stop t1) (s2 : Stop t2) (e : h1 ++ t1 = h2 ++ t2) : h1 = h2 ∧ t1 = t2 := by
  have fin : h1 = h2 → h1 = h2 ∧ t1 = t2 := fun q => by
    subst q
    exact ⟨rfl, List.append_cancel_left e⟩
  rcases H1 with ⟨a0, a1⟩ | ⟨l, rfl⟩ | rfl <;> rcases H2 with ⟨b0, b1⟩ | ⟨m, rfl⟩ | rfl
  · refine fin ?_
    rw [← tok_take h1 t1 a1 s1, e, tok_take h2 t2 b1 s2]
  · exact absurd (tok_first a0 a1 (e.trans (show quotedL m ++ t2 = 39 :: _ from rfl))) (by decide)
  · exact absurd (tok_first a0 a1 (e.trans (show [91, 93] ++ t2 = 91 :: _ from rfl))) (by decide)
  · exact absurd (tok_first b0 b1 (e.symm.trans (show quotedL l ++ t1 = 39 :: _ from rfl))) (by decide)
  · obtain ⟨rfl, rfl⟩ := quotedL_uniq l m t1 t2 s1.notq s2.notq e
    exact ⟨rfl, rfl⟩
  · exact absurd (List.cons.inj (show (39 : UInt8) :: _ = 91 :: _ from e)).1 (by decide)
  · exact absurd (tok_first b0 b1 (e.symm.trans (show [91, 93] ++ t1 = 91 :: _ from rfl))) (by decide)
  · exact absurd (List.cons.inj (show (91 : UInt8) :: _ = 39 :: _ from e)).1 (by decide)
  · exact fin rfl

theorem all_mono {p q : UInt8 → Bool} (hpq : ∀ b, p b = true → q b = true) {l : List UInt8} (h : l.all p = true) : l.all q = true := by
  rw [List.all_eq_true] at h ⊢
  exact fun b hb => hpq b (h b hb)
theorem plain_cases {l : List UInt8} (h : plainM l = true) : l = [33] ∨ l = [59] ∨ l = [91, 93] ∨ (l ≠ [] ∧ inSet lowers (l.headD 0) = true ∧ l.all (inSet letters) = true) ∨ (l ≠ [] ∧ l.all (inSet symbols) = true) := by
  unfold plainM at h
  split at h
  · cases h
  rename_i c0
  split at h
  · rename_i c1
    rcases c1 with c | c | c
    · exact .inl c
    · exact .inr (.inl c)
    · exact .inr (.inr (.inl c))
  split at h
  · rename_i c2
    exact .inr (.inr (.inr (.inl ⟨fun e => c0 (.inl e), c2, h⟩)))
  · exact .inr (.inr (.inr (.inr ⟨fun e => c0 (.inl e), h⟩)))
theorem name_head (l : List UInt8) : HeadOK (nameM l) := by
  unfold nameM
  split
  · rename_i h
    rcases plain_cases h with rfl | rfl | rfl | ⟨h0, _, h1⟩ | ⟨h0, h1⟩
    · exact .inl ⟨by simp, by decide⟩
    · exact .inl ⟨by simp, by decide⟩
    · exact .inr (.inr rfl)
    · exact .inl ⟨h0, all_mono (fun b hb => by unfold tokB; rw [hb]; rfl) h1⟩
    · exact .inl ⟨h0, all_mono (fun b hb => by unfold tokB; rw [hb]; simp) h1⟩
  · exact .inr (.inl ⟨l, rfl⟩)
theorem itoa_head (n : Int) : Lib.itoa n ≠ [] ∧ (Lib.itoa n).all tokB = true := by
  unfold Lib.itoa
  split
  · refine ⟨by simp, ?_⟩
    rw [List.all_cons, all_mono dig_tok (decDigits_all _).1]
    decide
  · exact ⟨(decDigits_all _).2, all_mono dig_tok (decDigits_all _).1⟩
theorem plain_quote (l m : List UInt8) : plainM l = true → l ≠ quotedL m := by
  rintro h rfl
  rcases plain_cases h with h | h | h | ⟨_, h, _⟩ | ⟨_, h⟩
  · exact absurd (List.cons.inj h).1 (by decide)
  · exact absurd (List.cons.inj h).1 (by decide)
  · exact absurd (List.cons.inj h).1 (by decide)
  · exact absurd (show inSet lowers 39 = true from h) (by decide)
  · unfold quotedL at h
    rw [List.all_cons, Bool.and_eq_true] at h
    exact absurd h.1 (by decide)
theorem quotedL_inj {l m : List UInt8} (h : quotedL l = quotedL m) : l = m := (quotedL_uniq l m [] [] trivial trivial (by rw [h])).1
/-- Names that are not the same have other texts. -/
theorem nameM_inj {l m : List UInt8} (h : nameM l = nameM m) : l = m := by
  unfold nameM at h
  split at h <;> split at h
  · exact h
  · rename_i a b; exact absurd h (plain_quote _ _ a)
  · rename_i a b; exact absurd h.symm (plain_quote _ _ b)
  · exact quotedL_inj h

/-- A structure's name. -/
def nameS (l : List UInt8) : List UInt8 := if l = [91, 93] then quotedL l else nameM l
theorem nameS_head (l : List UInt8) : HeadOK (nameS l) := by
  unfold nameS
  split
  · exact .inr (.inl ⟨l, rfl⟩)
  · exact name_head l
theorem nameS_not (l : List UInt8) : nameS l ≠ [91, 93] := by
  unfold nameS
  split
  · intro h; exact absurd (List.cons.inj h).1 (by decide)
  · rename_i h
    intro e
    exact h (nameM_inj (e.trans (by decide)))
theorem nameS_inj {l m : List UInt8} (h : nameS l = nameS m) : l = m := by
  unfold nameS at h
  have q : ∀ l m : List UInt8, l ≠ [91, 93] → nameM l = quotedL m → l = m := fun l m hl e => by
    unfold nameM at e
    split at e
    · rename_i a; exact absurd e (plain_quote _ _ a)
    · exact quotedL_inj e
  split at h <;> split at h
  · rename_i a b; rw [a, b]
  · rename_i a b; exact (q _ _ b h.symm).symm
  · rename_i a b; exact q _ _ a h
  · exact nameM_inj h

theorem name_not_num (l : List UInt8) : isNum (nameM l) = false ∧ (nameM l).headD 0 ≠ 95 := by
  unfold nameM
  split
  · rename_i h
    rcases plain_cases h with rfl | rfl | rfl | ⟨h0, h1, h2⟩ | ⟨h0, h1⟩
    · decide
    · decide
    · decide
    · cases l with
      | nil => exact absurd rfl h0
      | cons b l =>
        have q := bytesAll (fun b => !inSet lowers b || (!digB b && !(b == 45) && !(b == 95))) (by kernel_rfl) b
        rw [show inSet lowers b = true from h1] at q
        simp only [Bool.not_true, Bool.false_or, Bool.and_eq_true, Bool.not_eq_true'] at q
        refine ⟨?_, fun e => ?_⟩
        · simp only [isNum, q.1.1, q.1.2, Bool.false_and, Bool.or_false]
        · rw [show b = 95 from e] at q; exact absurd q.2 (by decide)
    · have sym : ∀ b, inSet symbols b = true → digB b = false ∧ (b == 95) = false := fun b hb => by
        have q := bytesAll (fun b => !inSet symbols b || (!digB b && !(b == 95))) (by kernel_rfl) b
        rw [hb] at q
        simpa using q
      cases l with
      | nil => exact absurd rfl h0
      | cons b l =>
        rw [List.all_cons, Bool.and_eq_true] at h1
        obtain ⟨s1, s2⟩ := sym b h1.1
        refine ⟨?_, fun e => ?_⟩
        · cases l with
          | nil => simp only [isNum, s1, Bool.and_false, Bool.or_false]
          | cons c l =>
            have h2 := h1.2
            rw [List.all_cons, Bool.and_eq_true] at h2
            simp only [isNum, s1, (sym c h2.1).1, Bool.and_false, Bool.or_false]
        · rw [show b = 95 from e] at s2; exact absurd s2 (by decide)
  · refine ⟨?_, ?_⟩
    · unfold quotedL isNum
      rfl
    · show (39 : UInt8) ≠ 95
      decide

/-! ### Leaves -/
def leafH (x : S24) : List UInt8 := if x.f0 = 1 then 95 :: Lib.itoa x.f2 else if x.f0 = 2 then Lib.itoa x.f2 else nameM (bl x.f1)
theorem leafH_head (x : S24) : HeadOK (leafH x) := by
  unfold leafH
  split
  · refine .inl ⟨by simp, ?_⟩
    rw [List.all_cons, (itoa_head _).2]
    decide
  split
  · exact .inl (itoa_head _)
  · exact name_head _
theorem s24_ext (x y : S24) (h0 : x.f0 = y.f0) (h1 : bl x.f1 = bl y.f1) (h2 : x.f2 = y.f2) (h3 : x.f3 = y.f3) : x = y := by
  cases x; cases y
  simp only at h0 h1 h2 h3
  rw [h0, bl_ext h1, h2, h3]

theorem Fine.node {x : S24} (h : Fine x) : nodeM x.f0 x.f1 x.f2 x.f3.length = true := by
  have := h.shape
  rw [shapeM_eq, Bool.and_eq_true] at this
  exact this.2
theorem Fine.leaf {x : S24} (h : Fine x) (h4 : x.f0 ≠ 4) : x.f3 = [] ∧ (x.f0 = 1 ∧ bl x.f1 = [] ∨ x.f0 = 2 ∧ bl x.f1 = [] ∨ x.f0 = 3 ∧ x.f2 = 0) := by
  have hn := h.node
  unfold nodeM at hn
  split at hn
  · rename_i c
    simp only [Bool.and_eq_true, decide_eq_true_eq] at hn
    exact ⟨List.length_eq_zero_iff.1 hn.2, .inl ⟨c, hn.1.2⟩⟩
  split at hn
  · rename_i _ c
    simp only [Bool.and_eq_true, decide_eq_true_eq] at hn
    exact ⟨List.length_eq_zero_iff.1 hn.2, .inr (.inl ⟨c, hn.1⟩)⟩
  split at hn
  · rename_i _ _ c
    simp only [Bool.and_eq_true, decide_eq_true_eq] at hn
    exact ⟨List.length_eq_zero_iff.1 hn.1.2, .inr (.inr ⟨c, hn.1.1⟩)⟩
  first
    | cases hn
    | (rw [if_neg h4] at hn; cases hn)
theorem Fine.str {x : S24} (h : Fine x) (h4 : x.f0 = 4) : x.f2 = 0 ∧ x.f3 ≠ [] := by
  have hn := h.node
  unfold nodeM at hn
  rw [h4, if_neg (by decide), if_neg (by decide), if_neg (by decide), if_pos rfl] at hn
  simp only [Bool.and_eq_true, decide_eq_true_eq] at hn
  refine ⟨hn.1.1.1, fun e => ?_⟩
  rw [e] at hn
  exact absurd hn.1.1.2 (by decide)
theorem leaf_inj (x y : S24) (hx : Fine x) (hy : Fine y) (h4 : x.f0 ≠ 4) (h4' : y.f0 ≠ 4) (h : leafH x = leafH y) : x = y := by
  obtain ⟨a3, ha⟩ := hx.leaf h4
  obtain ⟨b3, hb⟩ := hy.leaf h4'
  have l1 : ∀ z : S24, z.f0 = 1 → leafH z = 95 :: Lib.itoa z.f2 := fun z e => by unfold leafH; rw [if_pos e]
  have l2 : ∀ z : S24, z.f0 = 2 → leafH z = Lib.itoa z.f2 := fun z e => by unfold leafH; rw [if_neg (by rw [e]; decide), if_pos e]
  have l3 : ∀ z : S24, z.f0 = 3 → leafH z = nameM (bl z.f1) := fun z e => by unfold leafH; rw [if_neg (by rw [e]; decide), if_neg (by rw [e]; decide)]
  have d12 : ∀ n m : Int, 95 :: Lib.itoa n ≠ Lib.itoa m := fun n m e => by
    have := itoa_isNum m
    rw [← e] at this
    exact absurd (show isNum (95 :: Lib.itoa n) = false from rfl) (by rw [this]; decide)
  have d13 : ∀ (n : Int) (l : List UInt8), 95 :: Lib.itoa n ≠ nameM l := fun n l e => by
    have := (name_not_num l).2
    rw [← e] at this
    exact this rfl
  have d23 : ∀ (n : Int) (l : List UInt8), Lib.itoa n ≠ nameM l := fun n l e => by
    have := (name_not_num l).1
    rw [← e, itoa_isNum] at this
    cases this
  rcases ha with ⟨a, a1⟩ | ⟨a, a1⟩ | ⟨a, a1⟩ <;> rcases hb with ⟨b, b1⟩ | ⟨b, b1⟩ | ⟨b, b1⟩
  · rw [l1 x a, l1 y b] at h
    exact s24_ext x y (a.trans b.symm) (a1.trans b1.symm) (itoa_inj _ _ (List.cons.inj h).2) (a3.trans b3.symm)
  · rw [l1 x a, l2 y b] at h
    exact absurd h (d12 _ _)
  · rw [l1 x a, l3 y b] at h
    exact absurd h (d13 _ _)
  · rw [l2 x a, l1 y b] at h
    exact absurd h.symm (d12 _ _)
  · rw [l2 x a, l2 y b] at h
    exact s24_ext x y (a.trans b.symm) (a1.trans b1.symm) (itoa_inj _ _ h) (a3.trans b3.symm)
  · rw [l2 x a, l3 y b] at h
    exact absurd h (d23 _ _)
  · rw [l3 x a, l1 y b] at h
    exact absurd h.symm (d13 _ _)
  · rw [l3 x a, l2 y b] at h
    exact absurd h.symm (d23 _ _)
  · rw [l3 x a, l3 y b] at h
    exact s24_ext x y (a.trans b.symm) (nameM_inj h) (a1.trans b1.symm) (a3.trans b3.symm)

/-! ### What a text is -/
theorem mapO_ne {f : S24 → Option (List UInt8)} {xs : List S24} {rs : List (List UInt8)} (h : mapO f xs = some rs) (hx : xs ≠ []) : ∃ r ss x, x ∈ xs ∧ f x = some r ∧ rs = r :: ss := by
  cases xs with
  | nil => exact absurd rfl hx
  | cons x l =>
    unfold mapO at h
    cases hf : f x with
    | none => rw [hf] at h; cases h
    | some r =>
      rw [hf, Option.bind_some] at h
      cases hl : mapO f l with
      | none => rw [hl] at h; cases h
      | some ss =>
        rw [hl, Option.bind_some] at h
        exact ⟨r, ss, x, by simp, hf, (Option.some.inj h).symm⟩
/-- The text of a list's end. -/
def EndT (k : Nat) (rest : S24) (e : List UInt8) : Prop :=
  (rest.f0 = 3 ∧ bl rest.f1 = [91, 93] ∧ e = [93]) ∨ ∃ q, textF k rest = some q ∧ e = 124 :: (q ++ [93])
inductive Form (k : Nat) (x : S24) (r : List UInt8) : Prop
  | leaf (h4 : x.f0 ≠ 4) (hr : r = leafH x)
  | list (h4 : consB x = true) (xs : List S24) (rest : S24) (rs : List (List UInt8)) (e : List UInt8) (hs : spine k x = some (xs, rest)) (hm : mapO (textF k) xs = some rs) (he : EndT k rest e) (hr : r = 91 :: (joinC rs ++ e))
  | str (h4 : x.f0 = 4) (hc : consB x = false) (rs : List (List UInt8)) (hm : mapO (textF k) x.f3 = some rs) (hr : r = nameS (bl x.f1) ++ 40 :: (joinC rs ++ [41]))
theorem text_form {k : Nat} {x : S24} {r : List UInt8} (hx : Fine x) (h : textF (k + 1) x = some r) : Form k x r := by
  unfold textF at h
  split at h
  · cases h
  by_cases c4 : x.f0 = 4
  · rw [if_neg (by rw [c4]; decide), if_neg (by rw [c4]; decide), if_neg (by rw [c4]; decide), if_neg (fun q => q.elim (fun g => g c4) (hx.str c4).2)] at h
    by_cases hc : consB x = true
    · rw [if_pos hc] at h
      cases hs : spine k x with
      | none => rw [hs] at h; cases h
      | some p =>
        rw [hs, Option.bind_some] at h
        cases hm : mapO (textF k) p.1 with
        | none => rw [hm] at h; cases h
        | some rs =>
          rw [hm, Option.bind_some] at h
          split at h
          · split at h
            · cases hq : textF k p.2 with
              | none => rw [hq] at h; cases h
              | some q =>
                rw [hq, Option.bind_some] at h
                split at h
                · refine .list hc p.1 p.2 rs (124 :: (q ++ [93])) (by rw [hs]) hm (.inr ⟨q, hq, rfl⟩) ?_
                  rw [← Option.some.inj h]
                  simp
                · cases h
            · rename_i hn
              refine .list hc p.1 p.2 rs [93] (by rw [hs]) hm (.inl ⟨?_, ?_, rfl⟩) ?_
              · exact Decidable.byContradiction fun q => hn (.inl q)
              · exact Decidable.byContradiction fun q => hn (.inr q)
              · rw [← Option.some.inj h]
                simp
          · cases h
    · rw [if_neg hc] at h
      cases hm : mapO (textF k) x.f3 with
      | none => rw [hm] at h; cases h
      | some rs =>
        rw [hm, Option.bind_some] at h
        split at h
        · refine .str c4 (by simpa using hc) rs hm ?_
          rw [← Option.some.inj h]
          unfold nameS
          simp
        · cases h
  · refine .leaf c4 ?_
    unfold leafH
    obtain ⟨_, ha⟩ := hx.leaf c4
    rcases ha with ⟨a, _⟩ | ⟨a, _⟩ | ⟨a, _⟩
    · rw [if_pos a] at h ⊢
      exact (Option.some.inj h).symm
    · rw [if_neg (by rw [a]; decide), if_pos a] at h ⊢
      exact (Option.some.inj h).symm
    · rw [if_neg (by rw [a]; decide), if_neg (by rw [a]; decide), if_pos a] at h
      rw [if_neg (by rw [a]; decide), if_neg (by rw [a]; decide)]
      exact (Option.some.inj h).symm

theorem head_first {h : List UInt8} (H : HeadOK h) : ∃ b l, h = b :: l ∧ b ≠ 93 := by
  rcases H with ⟨a0, a1⟩ | ⟨l, rfl⟩ | rfl
  · cases h with
    | nil => exact absurd rfl a0
    | cons b l =>
      refine ⟨b, l, rfl, ?_⟩
      rintro rfl
      rw [List.all_cons, Bool.and_eq_true] at a1
      exact absurd a1.1 (by decide)
  · exact ⟨39, _, rfl, by decide⟩
  · exact ⟨91, [93], rfl, by decide⟩
theorem text_first {k : Nat} {x : S24} {r : List UInt8} (hx : Fine x) (h : textF k x = some r) : ∃ b l, r = b :: l ∧ b ≠ 93 := by
  cases k with
  | zero => cases h
  | succ k =>
    rcases text_form hx h with ⟨_, rfl⟩ | ⟨_, xs, rest, rs, e, _, _, _, rfl⟩ | ⟨_, _, rs, _, rfl⟩
    · exact head_first (leafH_head x)
    · exact ⟨91, _, rfl, by decide⟩
    · obtain ⟨b, l, e, hb⟩ := head_first (nameS_head (bl x.f1))
      exact ⟨b, _, by rw [e]; rfl, hb⟩

theorem spine_fine : ∀ (f : Nat) (y : S24) (xs : List S24) (rest : S24), Fine y → spine f y = some (xs, rest) → (∀ a ∈ xs, Fine a) ∧ Fine rest ∧ (consB y = true → xs ≠ [])
  | 0, _, _, _, _, h => by cases h
  | f + 1, y, xs, rest, hy, h => by
    unfold spine at h
    split at h
    · rename_i hc
      obtain ⟨_, _, h2⟩ := consB_parts hc
      obtain ⟨hl, _⟩ := two_args y.f3 h2
      have m0 : rd_T24 y.f3 0 ∈ y.f3 := by rw [hl]; simp [rd_T24]
      have m1 : rd_T24 y.f3 1 ∈ y.f3 := by rw [hl]; simp [rd_T24]
      cases hs : spine f (rd_T24 y.f3 1) with
      | none => rw [hs] at h; cases h
      | some p =>
        rw [hs, Option.bind_some] at h
        obtain ⟨rfl, rfl⟩ := Prod.mk.inj (Option.some.inj h)
        obtain ⟨q1, q2, _⟩ := spine_fine f _ p.1 p.2 (hy.arg m1) (by rw [hs])
        refine ⟨?_, q2, fun _ => by simp⟩
        intro a ha
        rcases List.mem_cons.1 ha with rfl | ha
        · exact hy.arg m0
        · exact q1 a ha
    · rename_i hc
      obtain ⟨rfl, rfl⟩ := Prod.mk.inj (Option.some.inj h)
      exact ⟨fun a ha => by simp at ha, hy, fun q => absurd q hc⟩
theorem spine_inj : ∀ (f g : Nat) (x y : S24) (xs : List S24) (rest : S24), Fine x → Fine y → spine f x = some (xs, rest) → spine g y = some (xs, rest) → x = y
  | 0, _, _, _, _, _, _, _, h, _ => by cases h
  | _ + 1, 0, _, _, _, _, _, _, _, h => by cases h
  | f + 1, g + 1, x, y, xs, rest, hx, hy, h, h' => by
    unfold spine at h h'
    by_cases hc : consB x = true
    · rw [if_pos hc] at h
      cases hs : spine f (rd_T24 x.f3 1) with
      | none => rw [hs] at h; cases h
      | some p =>
        rw [hs, Option.bind_some] at h
        obtain ⟨rfl, rfl⟩ := Prod.mk.inj (Option.some.inj h)
        by_cases hc' : consB y = true
        · rw [if_pos hc'] at h'
          cases hs' : spine g (rd_T24 y.f3 1) with
          | none => rw [hs'] at h'; cases h'
          | some p' =>
            rw [hs', Option.bind_some] at h'
            obtain ⟨e1, e2⟩ := Prod.mk.inj (Option.some.inj h')
            obtain ⟨e0, e1⟩ := List.cons.inj e1
            obtain ⟨a0, a1, a2⟩ := consB_parts hc
            obtain ⟨b0, b1, b2⟩ := consB_parts hc'
            obtain ⟨al, _⟩ := two_args x.f3 a2
            obtain ⟨bl', _⟩ := two_args y.f3 b2
            have m1 : rd_T24 x.f3 1 ∈ x.f3 := by rw [al]; simp [rd_T24]
            have n1 : rd_T24 y.f3 1 ∈ y.f3 := by rw [bl']; simp [rd_T24]
            have := spine_inj f g _ _ p.1 p.2 (hx.arg m1) (hy.arg n1) (by rw [hs]) (by rw [hs', ← e1, ← e2])
            refine s24_ext x y (a0.trans b0.symm) (a1.trans b1.symm) ((hx.str a0).1.trans (hy.str b0).1.symm) ?_
            rw [al, bl', e0, this]
        · rw [if_neg hc'] at h'
          obtain ⟨e1, _⟩ := Prod.mk.inj (Option.some.inj h')
          cases e1
    · rw [if_neg hc] at h
      obtain ⟨rfl, rfl⟩ := Prod.mk.inj (Option.some.inj h)
      by_cases hc' : consB y = true
      · rw [if_pos hc'] at h'
        cases hs' : spine g (rd_T24 y.f3 1) with
        | none => rw [hs'] at h'; cases h'
        | some p' =>
          rw [hs', Option.bind_some] at h'
          obtain ⟨e1, _⟩ := Prod.mk.inj (Option.some.inj h')
          cases e1
      · rw [if_neg hc'] at h'
        exact (Prod.mk.inj (Option.some.inj h')).2.symm

/-! ### Two texts -/
def Uniq (k : Nat) : Prop := ∀ (x y : S24) (g : Nat) (r s t u : List UInt8), Fine x → Fine y → textF k x = some r → textF g y = some s → Dl t → Dl u → r ++ t = s ++ u → x = y ∧ t = u
def End : List UInt8 → Prop
  | [] => False
  | b :: _ => b = 41 ∨ b = 93 ∨ b = 124
theorem End.dl {l : List UInt8} (h : End l) : Dl l := by
  cases l with
  | nil => trivial
  | cons b l => rcases h with h | h | h; exact .inl h; exact .inr (.inr (.inl h)); exact .inr (.inr (.inr h))
theorem End.not44 {l m : List UInt8} (h : End l) : l ≠ 44 :: m := by
  rintro rfl
  rcases h with h | h | h <;> exact absurd h (by decide)
theorem tail_dl (rs : List (List UInt8)) (e : List UInt8) (h : End e) : Dl (Lib.joinTail [44] rs ++ e) := by
  cases rs with
  | nil => exact h.dl
  | cons r rs => exact .inr (.inl rfl)
theorem tail_cons (r : List UInt8) (rs : List (List UInt8)) (e : List UInt8) : Lib.joinTail [44] (r :: rs) ++ e = 44 :: (r ++ (Lib.joinTail [44] rs ++ e)) := by
  unfold Lib.joinTail
  simp
theorem mapO_cons {f : S24 → Option (List UInt8)} {x : S24} {l : List S24} {rs : List (List UInt8)} (h : mapO f (x :: l) = some rs) : ∃ r ss, f x = some r ∧ mapO f l = some ss ∧ rs = r :: ss := by
  unfold mapO at h
  cases hf : f x with
  | none => rw [hf] at h; cases h
  | some r =>
    rw [hf, Option.bind_some] at h
    cases hl : mapO f l with
    | none => rw [hl] at h; cases h
    | some ss =>
      rw [hl, Option.bind_some] at h
      exact ⟨r, ss, rfl, rfl, (Option.some.inj h).symm⟩
theorem tail_uniq {k : Nat} (hu : Uniq k) (g : Nat) : ∀ (xs ys : List S24) (rs ss : List (List UInt8)) (e1 e2 : List UInt8), (∀ a ∈ xs, Fine a) → (∀ a ∈ ys, Fine a) → mapO (textF k) xs = some rs → mapO (textF g) ys = some ss → End e1 → End e2 →
    Lib.joinTail [44] rs ++ e1 = Lib.joinTail [44] ss ++ e2 → xs = ys ∧ e1 = e2
  | [], [], rs, ss, e1, e2, _, _, h1, h2, _, _, h => by
    obtain rfl := Option.some.inj h1
    obtain rfl := Option.some.inj h2
    exact ⟨rfl, by simpa [Lib.joinTail] using h⟩
  | [], y :: ys, rs, ss, e1, e2, _, _, h1, h2, q1, _, h => by
    obtain rfl := Option.some.inj h1
    obtain ⟨s, ss', _, _, rfl⟩ := mapO_cons h2
    rw [tail_cons] at h
    exact absurd (show e1 = _ from by simpa [Lib.joinTail] using h) q1.not44
  | x :: xs, [], rs, ss, e1, e2, _, _, h1, h2, _, q2, h => by
    obtain rfl := Option.some.inj h2
    obtain ⟨s, ss', _, _, rfl⟩ := mapO_cons h1
    rw [tail_cons] at h
    exact absurd (show e2 = _ from by simpa [Lib.joinTail] using h.symm) q2.not44
  | x :: xs, y :: ys, rs, ss, e1, e2, f1, f2, h1, h2, q1, q2, h => by
    obtain ⟨r, rs', hr, hrs, rfl⟩ := mapO_cons h1
    obtain ⟨s, ss', hs, hss, rfl⟩ := mapO_cons h2
    rw [tail_cons, tail_cons] at h
    obtain ⟨rfl, h⟩ := hu x y g r s _ _ (f1 x (by simp)) (f2 y (by simp)) hr hs (tail_dl _ _ q1) (tail_dl _ _ q2) (List.cons.inj h).2
    obtain ⟨rfl, rfl⟩ := tail_uniq hu g xs ys rs' ss' e1 e2 (fun a ha => f1 a (by simp [ha])) (fun a ha => f2 a (by simp [ha])) hrs hss q1 q2 h
    exact ⟨rfl, rfl⟩
theorem join_uniq {k : Nat} (hu : Uniq k) (g : Nat) (xs ys : List S24) (rs ss : List (List UInt8)) (e1 e2 : List UInt8) (n1 : xs ≠ []) (n2 : ys ≠ []) (f1 : ∀ a ∈ xs, Fine a) (f2 : ∀ a ∈ ys, Fine a)
    (h1 : mapO (textF k) xs = some rs) (h2 : mapO (textF g) ys = some ss) (q1 : End e1) (q2 : End e2) (h : joinC rs ++ e1 = joinC ss ++ e2) : xs = ys ∧ e1 = e2 := by
  cases xs with
  | nil => exact absurd rfl n1
  | cons x xs =>
    cases ys with
    | nil => exact absurd rfl n2
    | cons y ys =>
      obtain ⟨r, rs', hr, hrs, rfl⟩ := mapO_cons h1
      obtain ⟨s, ss', hs, hss, rfl⟩ := mapO_cons h2
      unfold joinC at h
      rw [Lib.join_cons, Lib.join_cons, List.append_assoc, List.append_assoc] at h
      obtain ⟨rfl, h⟩ := hu x y g r s _ _ (f1 x (by simp)) (f2 y (by simp)) hr hs (tail_dl _ _ q1) (tail_dl _ _ q2) h
      obtain ⟨rfl, rfl⟩ := tail_uniq hu g xs ys rs' ss' e1 e2 (fun a ha => f1 a (by simp [ha])) (fun a ha => f2 a (by simp [ha])) hrs hss q1 q2 h
      exact ⟨rfl, rfl⟩
theorem EndT.ends {k : Nat} {rest : S24} {e : List UInt8} (h : EndT k rest e) (t : List UInt8) : End (e ++ t) := by
  rcases h with ⟨_, _, rfl⟩ | ⟨q, _, rfl⟩
  · exact .inr (.inl rfl)
  · exact .inr (.inr rfl)
theorem endT_uniq {k : Nat} (hu : Uniq k) (g : Nat) (x y : S24) (e1 e2 t u : List UInt8) (f1 : Fine x) (f2 : Fine y) (h1 : EndT k x e1) (h2 : EndT g y e2) (h : e1 ++ t = e2 ++ u) : x = y ∧ t = u := by
  rcases h1 with ⟨a0, a1, rfl⟩ | ⟨q, hq, rfl⟩ <;> rcases h2 with ⟨b0, b1, rfl⟩ | ⟨p, hp, rfl⟩
  · refine ⟨?_, by simpa using h⟩
    refine s24_ext x y (a0.trans b0.symm) (a1.trans b1.symm) ?_ ?_
    · rcases (f1.leaf (by rw [a0]; decide)).2 with ⟨q, _⟩ | ⟨q, _⟩ | ⟨_, q⟩
      · rw [a0] at q; cases q
      · rw [a0] at q; cases q
      · rcases (f2.leaf (by rw [b0]; decide)).2 with ⟨q', _⟩ | ⟨q', _⟩ | ⟨_, q'⟩
        · rw [b0] at q'; cases q'
        · rw [b0] at q'; cases q'
        · rw [q, q']
    · rw [(f1.leaf (by rw [a0]; decide)).1, (f2.leaf (by rw [b0]; decide)).1]
  · exact absurd (List.cons.inj (show (93 : UInt8) :: _ = 124 :: _ from h)).1 (by decide)
  · exact absurd (List.cons.inj (show (124 : UInt8) :: _ = 93 :: _ from h)).1 (by decide)
  · have h' : q ++ (93 :: t) = p ++ (93 :: u) := by simpa using h
    obtain ⟨rfl, e⟩ := hu x y g q p (93 :: t) (93 :: u) f1 f2 hq hp (show Dl (93 :: t) from Or.inr (Or.inr (Or.inl rfl))) (show Dl (93 :: u) from Or.inr (Or.inr (Or.inl rfl))) h'
    exact ⟨rfl, (List.cons.inj e).2⟩

/-- A list's text does not begin as another's. -/
theorem list_not {k : Nat} {xs : List S24} {rs : List (List UInt8)} {e t H T : List UInt8} (hf : ∀ a ∈ xs, Fine a) (hm : mapO (textF k) xs = some rs) (n1 : xs ≠ []) (HH : HeadOK H) (h : 91 :: (joinC rs ++ e) ++ t = H ++ T) : False := by
  obtain ⟨r, ss, x, hx, hr, rfl⟩ := mapO_ne hm n1
  obtain ⟨b, l, rfl, hb⟩ := text_first (hf x hx) hr
  have e1 : 91 :: (joinC ((b :: l) :: ss) ++ e) ++ t = 91 :: b :: (l ++ Lib.joinTail [44] ss ++ e ++ t) := by
    unfold joinC
    rw [Lib.join_cons]
    simp
  rw [e1] at h
  rcases HH with ⟨a0, a1⟩ | ⟨m, rfl⟩ | rfl
  · exact absurd (tok_first a0 a1 h.symm) (by decide)
  · exact absurd (List.cons.inj (show (91 : UInt8) :: _ = 39 :: _ from h)).1 (by decide)
  · exact hb (List.cons.inj (List.cons.inj h).2).1

theorem uniq : ∀ k, Uniq k
  | 0 => fun _ _ _ _ _ _ _ _ _ h _ _ _ _ => by cases h
  | k + 1 => fun x y g r s t u hx hy h1 h2 dt du h => by
    cases g with
    | zero => cases h2
    | succ g =>
      have hu := uniq k
      have nd : ∀ {l m : List UInt8}, Dl l → l ≠ 40 :: m := fun hd e => by
        subst e
        rcases hd with q | q | q | q <;> exact absurd q (by decide)
      rcases text_form hx h1 with ⟨a4, rfl⟩ | ⟨ac, xs, rest, rs, e, hs, hm, he, rfl⟩ | ⟨a4, ac, rs, hm, rfl⟩ <;> rcases text_form hy h2 with ⟨b4, rfl⟩ | ⟨bc, xs', rest', rs', e', hs', hm', he', rfl⟩ | ⟨b4, bc, rs', hm', rfl⟩
      · obtain ⟨e1, e2⟩ := head_uniq (leafH_head x) (leafH_head y) dt.stop du.stop h
        exact ⟨leaf_inj x y hx hy a4 b4 e1, e2⟩
      · obtain ⟨f1, f2, f3⟩ := spine_fine _ _ _ _ hy hs'
        exact (list_not f1 hm' (f3 bc) (leafH_head x) h.symm).elim
      · rw [List.append_assoc] at h
        obtain ⟨_, e2⟩ := head_uniq (leafH_head x) (nameS_head _) dt.stop (show Stop (40 :: _ ++ u) from rfl) h
        exact absurd e2 (nd dt)
      · obtain ⟨f1, f2, f3⟩ := spine_fine _ _ _ _ hx hs
        exact (list_not f1 hm (f3 ac) (leafH_head y) h).elim
      · obtain ⟨f1, f2, f3⟩ := spine_fine _ _ _ _ hx hs
        obtain ⟨g1, g2, g3⟩ := spine_fine _ _ _ _ hy hs'
        have h' : joinC rs ++ (e ++ t) = joinC rs' ++ (e' ++ u) := by simpa using h
        obtain ⟨rfl, e2⟩ := join_uniq hu g xs xs' rs rs' _ _ (f3 ac) (g3 bc) f1 g1 hm hm' (he.ends t) (he'.ends u) h'
        obtain ⟨rfl, rfl⟩ := endT_uniq hu g rest rest' e e' t u f2 g2 he he' e2
        exact ⟨spine_inj k g x y xs rest hx hy hs hs', rfl⟩
      · obtain ⟨f1, f2, f3⟩ := spine_fine _ _ _ _ hx hs
        rw [List.append_assoc (nameS _)] at h
        exact (list_not f1 hm (f3 ac) (nameS_head _) h).elim
      · rw [List.append_assoc] at h
        obtain ⟨_, e2⟩ := head_uniq (nameS_head _) (leafH_head y) (show Stop (40 :: _ ++ t) from rfl) du.stop h
        exact absurd e2.symm (nd du)
      · obtain ⟨f1, f2, f3⟩ := spine_fine _ _ _ _ hy hs'
        rw [List.append_assoc (nameS _)] at h
        exact (list_not f1 hm' (f3 bc) (nameS_head _) h.symm).elim
      · rw [List.append_assoc, List.append_assoc] at h
        obtain ⟨e1, e2⟩ := head_uniq (nameS_head _) (nameS_head _) (show Stop (40 :: _ ++ t) from rfl) (show Stop (40 :: _ ++ u) from rfl) h
        have h' : joinC rs ++ (41 :: t) = joinC rs' ++ (41 :: u) := by simpa using e2
        obtain ⟨x2, xn⟩ := hx.str a4
        obtain ⟨y2, yn⟩ := hy.str b4
        obtain ⟨e3, e4⟩ := join_uniq hu g x.f3 y.f3 rs rs' (41 :: t) (41 :: u) xn yn (fun a ha => hx.arg ha) (fun a ha => hy.arg ha) hm hm' (show End (41 :: t) from Or.inl rfl) (show End (41 :: u) from Or.inl rfl) h'
        exact ⟨s24_ext x y (a4.trans b4.symm) (nameS_inj e1) (x2.trans y2.symm) e3, (List.cons.inj e4).2⟩

/-- Terms that are not alike have other texts. -/
theorem text_inj {k : Nat} {x y : S24} {r s : List UInt8} (hx : Fine x) (hy : Fine y) (h1 : textF k x = some r) (h2 : textF k y = some s) : r = s ↔ x = y := by
  constructor
  · intro h
    exact (uniq k x y k r s [] [] hx hy h1 h2 trivial trivial (by rw [h])).1
  · rintro rfl
    exact Option.some.inj (h1.symm.trans h2)
end Go.Proofs.YthnjdfblappkfaaDoor.RefW
