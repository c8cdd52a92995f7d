/- Several small texts of this claim in one. -/
import Derived.Test.YthnjdfblappkfaaDoorRefN
import Derived.Test.YthnjdfblappkfaaDoorMGood
import Derived.Test.YthnjdfblappkfaaDoorMRefs1
import Derived.Test.YthnjdfblappkfaaDoorMRefText
section
/-
  The document's 'good' is the program's: the plain half.
-/
namespace Go.Proofs.YthnjdfblappkfaaDoor.RefW
open Go.RowKit Go.Proofs.YthnjdfblappkfaaDoor.P Go.Proofs.YthnjdfblappkfaaDoorW.PrintWords Go.Proofs.YthnjdfblappkfaaDoorW.PrintLast Go.Proofs.YthnjdfblappkfaaDoorW.PrintMore
open Go Go.Proofs.YthnjdfblappkfaaDoor

mutual
def sizeT : S24 → Nat
  | ⟨_, _, _, l⟩ => sizeTL l + 1
def sizeTL : List S24 → Nat
  | [] => 0
  | x :: l => sizeT x + sizeTL l
end
mutual
def depthM : S24 → Nat
  | ⟨_, _, _, l⟩ => depthL l + 1
def depthL : List S24 → Nat
  | [] => 0
  | x :: l => max (depthM x) (depthL l)
end
/-- A node by itself. -/
def nodeM (f0 : Int) (f1 : ByteArray) (f2 : Int) (n : Nat) : Bool :=
  if f0 = 1 then decide (0 ≤ f2) && decide (bl f1 = []) && decide (n = 0)
  else if f0 = 2 then decide (bl f1 = []) && decide (n = 0)
  else if f0 = 3 then decide (f2 = 0) && decide (n = 0) && nameOK (bl f1)
  else if f0 = 4 then decide (f2 = 0) && decide (1 ≤ n) && decide (n ≤ 16) && nameOK (bl f1)
  else false
mutual
def shapeM : S24 → Bool
  | ⟨f0, f1, f2, l⟩ => shapeL l && nodeM f0 f1 f2 l.length
def shapeL : List S24 → Bool
  | [] => true
  | x :: l => shapeM x && shapeL l
end
theorem sizeT_eq (x : S24) : sizeT x = sizeTL x.f3 + 1 := by cases x; simp only [sizeT]
theorem depthM_eq (x : S24) : depthM x = depthL x.f3 + 1 := by cases x; simp only [depthM]
theorem shapeM_eq (x : S24) : shapeM x = (shapeL x.f3 && nodeM x.f0 x.f1 x.f2 x.f3.length) := by cases x; simp only [shapeM]
theorem sizeT_mem : ∀ (l : List S24) (x : S24), x ∈ l → sizeT x ≤ sizeTL l
  | y :: l, x, h => by
    rcases List.mem_cons.1 h with rfl | h
    · simp only [sizeTL]; omega
    · have := sizeT_mem l x h; simp only [sizeTL]; omega
theorem sizeTL_len : ∀ l : List S24, l.length ≤ sizeTL l
  | [] => Nat.le_refl _
  | x :: l => by have := sizeTL_len l; have := sizeT_eq x; simp only [sizeTL, List.length_cons]; omega
theorem depth_size : ∀ n x, sizeT x ≤ n → depthM x ≤ sizeT x
  | 0, x, h => by have := sizeT_eq x; omega
  | n + 1, x, h => by
    rw [depthM_eq, sizeT_eq] at *
    have : ∀ l : List S24, (∀ y ∈ l, sizeT y ≤ n) → depthL l ≤ sizeTL l := by
      intro l
      induction l with
      | nil => intro _; simp [depthL]
      | cons y l ih =>
        intro hl
        have h1 := depth_size n y (hl y (by simp))
        have h2 := ih (fun z hz => hl z (by simp [hz]))
        simp only [depthL, sizeTL]
        omega
    have := this x.f3 (fun y hy => by have := sizeT_mem _ _ hy; omega)
    omega
theorem depthL_le : ∀ (l : List S24) (d : Nat), depthL l ≤ d ↔ ∀ x ∈ l, depthM x ≤ d
  | [], d => by simp [depthL]
  | x :: l, d => by
    have := depthL_le l d
    simp only [depthL, List.mem_cons, forall_eq_or_imp, ← this]
    omega
theorem shapeL_all : ∀ l : List S24, shapeL l = l.all shapeM
  | [] => rfl
  | x :: l => by simp only [shapeL, List.all_cons, shapeL_all l]

/-- The program's 'good' is the document's: a depth, and a shape. -/
theorem goodM_eq : ∀ (d : Nat) (x : S24), goodM d x = (decide (depthM x ≤ d) && shapeM x)
  | 0, x => by
    have := depthM_eq x
    rw [goodM, decide_eq_false (by omega)]
    rfl
  | d + 1, x => by
    rw [depthM_eq, shapeM_eq, goodM]
    unfold nodeM
    have hall : (!(x.f3.any fun a => !goodM d a)) = (decide (depthL x.f3 + 1 ≤ d + 1) && shapeL x.f3) := by
      rw [shapeL_all, Bool.eq_iff_iff]
      simp only [Bool.not_eq_true', List.any_eq_false, Bool.not_eq_true', Bool.not_eq_false, Bool.and_eq_true, decide_eq_true_eq, List.all_eq_true]
      constructor
      · intro h
        have h' : ∀ a ∈ x.f3, depthM a ≤ d ∧ shapeM a = true := fun a ha => by
          have := h a ha
          rw [goodM_eq d a] at this
          simpa using this
        exact ⟨by have := (depthL_le x.f3 d).2 (fun a ha => (h' a ha).1); omega, fun a ha => (h' a ha).2⟩
      · rintro ⟨h1, h2⟩ a ha
        rw [goodM_eq d a]
        have := (depthL_le x.f3 d).1 (by omega) a ha
        simp [this, h2 a ha]
    by_cases h1 : x.f0 = 1
    · rw [if_pos h1, if_pos h1]
      by_cases hl : x.f3.length = 0
      · have h0 : x.f3 = [] := List.length_eq_zero_iff.1 hl
        rw [h0]
        simp [depthL, shapeL]
      · simp [hl]
    rw [if_neg h1, if_neg h1]
    by_cases h2 : x.f0 = 2
    · rw [if_pos h2, if_pos h2]
      by_cases hl : x.f3.length = 0
      · have h0 : x.f3 = [] := List.length_eq_zero_iff.1 hl
        rw [h0]
        simp [depthL, shapeL]
      · simp [hl]
    rw [if_neg h2, if_neg h2]
    by_cases h3 : x.f0 = 3
    · rw [if_pos h3, if_pos h3]
      by_cases hl : x.f3.length = 0
      · have h0 : x.f3 = [] := List.length_eq_zero_iff.1 hl
        rw [h0]
        simp [depthL, shapeL]
      · simp [hl]
    rw [if_neg h3, if_neg h3]
    by_cases h4 : x.f0 = 4
    · rw [if_pos h4, if_pos h4, hall]
      generalize (decide (depthL x.f3 + 1 ≤ d + 1)) = u
      generalize shapeL x.f3 = v
      generalize (decide (x.f2 = 0) && decide (1 ≤ x.f3.length) && decide (x.f3.length ≤ 16) && nameOK (bl x.f1)) = t
      cases t <;> cases u <;> cases v <;> rfl
    · rw [if_neg h4, if_neg h4]
      simp

mutual
def nmT : S24 → Nat
  | ⟨_, f1, _, l⟩ => max f1.size (nmL l)
def nmL : List S24 → Nat
  | [] => 0
  | x :: l => max (nmT x) (nmL l)
end
theorem nmT_eq (x : S24) : nmT x = max x.f1.size (nmL x.f3) := by cases x; simp only [nmT]
theorem nmL_le : ∀ (l : List S24) (d : Nat), nmL l ≤ d ↔ ∀ x ∈ l, nmT x ≤ d
  | [], d => by simp [nmL]
  | x :: l, d => by
    have := nmL_le l d
    simp only [nmL, List.mem_cons, forall_eq_or_imp, ← this]
    omega
theorem sizeTL_le (l : List S24) (x : S24) (h : x ∈ l) : sizeT x ≤ sizeTL l := sizeT_mem l x h

theorem rdI (xs : List S24) (i : Nat) (h : i < xs.length) : rd_T24 xs (i : Int) = xs[i] := by
  unfold rd_T24
  simp [List.getD_eq_getElem?_getD, h]

theorem Name1_loop (s : ByteArray) (hs : s.size ≤ 1099511627776) : ∀ (d i : Nat), s.size - i ≤ d → i ≤ s.size →
    Ev (fun k => resolventref01_Name.l0 k s (i : Int)) (!(((bl s).drop i).any badB) && decide (s.size ≤ 32)) := by
  intro d
  induction d with
  | zero =>
    intro i hd hi
    obtain rfl : i = s.size := by omega
    have hn : (bl s).drop s.size = [] := List.drop_eq_nil_iff.2 (Nat.le_of_eq (bl_length s))
    rw [hn]
    refine Ev.nows 1 fun n => ?_
    simp only [resolventref01_Name.l0]
    rw [if_neg (by omega)]
    have : decide ((s.size : Int) ≤ 32) = decide (s.size ≤ 32) := by
      rw [Bool.eq_iff_iff, decide_eq_true_iff, decide_eq_true_iff]
      omega
    rw [this]
    rfl
  | succ d ih =>
    intro i hd hi
    by_cases hlt : i < s.size
    · obtain ⟨c, hdr, hb⟩ := at_drop s i hlt
      have hw : wrap64 ((i : Int) + 1) = ((i + 1 : Nat) : Int) := wrap_small (by omega) (by omega)
      have ih' := ih (i + 1) (by omega) (by omega)
      rw [hdr, List.any_cons]
      have hst : ∀ n, resolventref01_Name.l0 (n + 1) s (i : Int) = if badB c = true then some false else resolventref01_Name.l0 n s ((i + 1 : Nat) : Int) := by
        intro n
        simp only [resolventref01_Name.l0]
        rw [if_pos (by omega), if_pos (by omega), hb, hw]
        unfold badB badI
        by_cases a1 : (c.toNat : Int) < 32
        · rw [if_pos a1]
          by_cases a2 : (c.toNat : Int) = 9
          · rw [if_pos a2]; simp [a2]
          · rw [if_neg a2]
            by_cases a3 : (c.toNat : Int) = 10
            · rw [if_pos a3]; simp [a3]
            · rw [if_neg a3]
              have b2 : ((c.toNat : Int) != 9) = true := by simpa using a2
              have b3 : ((c.toNat : Int) != 10) = true := by simpa using a3
              rw [decide_eq_true a1, b2, b3]
              rfl
        · rw [if_neg a1]
          by_cases a4 : (c.toNat : Int) > 126
          · rw [if_pos a4]
            by_cases a2 : (c.toNat : Int) = 9
            · omega
            · rw [if_neg a2]
              by_cases a3 : (c.toNat : Int) = 10
              · omega
              · rw [if_neg a3]
                have b2 : ((c.toNat : Int) != 9) = true := by simpa using a2
                have b3 : ((c.toNat : Int) != 10) = true := by simpa using a3
                have b4 : (126 : Int) < (c.toNat : Int) := a4
                rw [decide_eq_true b4, b2, b3]
                simp
          · rw [if_neg a4]
            have b4 : ¬ (126 : Int) < (c.toNat : Int) := a4
            rw [decide_eq_false a1, decide_eq_false b4]
            rfl
      cases hbc : badB c with
      | true =>
        refine Ev.nows 1 fun n => ?_
        rw [hst, hbc]
        rfl
      | false =>
        refine Ev.step ih' fun n => ?_
        rw [hst, hbc]
        rfl
    · exact ih i (by omega) hi
theorem Name1_ev (s : ByteArray) (hs : s.size ≤ 1099511627776) : Ev (fun k => resolventref01_Name.f k s) (nameOK (bl s)) := by
  have := Name1_loop s hs s.size 0 (by omega) (by omega)
  have e : (!(((bl s).drop 0).any badB) && decide (s.size ≤ 32)) = nameOK (bl s) := by
    unfold nameOK
    rw [List.drop_zero, bl_length, Bool.and_comm]
  rw [e] at this
  exact this

def acc (dep : Nat → Nat) : Nat → Nat → Nat → Nat
  | _, 0, m => m
  | i, d + 1, m => acc dep (i + 1) d (max m (dep i))
theorem Depth_loop (f0 : Int) (f1 : ByteArray) (f2 : Int) (args : List S24) (dep : Nat → Nat) (hx : ∀ i (h : i < args.length), Ev (fun k => resolventref01_Depth.f k args[i].f0 args[i].f1 args[i].f2 args[i].f3) (dep i : Int))
    (hb : ∀ i, dep i ≤ 1000000) (hlen : args.length ≤ 1000000) : ∀ (d i m : Nat), i + d = args.length → m ≤ 1000000 →
    Ev (fun k => resolventref01_Depth.l0 k (m : Int) (i : Int) f0 f1 f2 args) ((acc dep i d m + 1 : Nat) : Int) := by
  intro d
  induction d with
  | zero =>
    intro i m hi hm
    refine Ev.nows 1 fun k => ?_
    simp only [resolventref01_Depth.l0]
    rw [if_neg (by omega), wrap_small (by omega) (by omega)]
    rfl
  | succ d ih =>
    intro i m hi hm
    have hlt : i < args.length := by omega
    have hbi := hb i
    have ihx := hx i hlt
    rw [acc]
    obtain ⟨D, hD⟩ : ∃ D, dep i = D := ⟨_, rfl⟩
    rw [hD] at ihx hbi ⊢
    have ihl := ih (i + 1) (max m D) (by omega) (by omega)
    have hw : wrap64 ((i : Int) + 1) = ((i + 1 : Nat) : Int) := wrap_small (by omega) (by omega)
    have hmx : mx (m : Int) (D : Int) = ((max m D : Nat) : Int) := by unfold mx; split <;> omega
    refine Ev.step (g := fun k => (resolventref01_Depth.f k args[i].f0 args[i].f1 args[i].f2 args[i].f3).bind fun t => resolventref01_Depth.l0 k (mx (m : Int) t) ((i + 1 : Nat) : Int) f0 f1 f2 args) (Ev.bind ihx ?_) (fun k => ?_)
    · rw [hmx]
      exact ihl
    · simp only [resolventref01_Depth.l0]
      rw [if_pos (by omega), if_pos (by omega), rdI args i hlt, hw]
theorem acc_eq (args : List S24) (dep : Nat → Nat) (hd : ∀ i (h : i < args.length), dep i = depthM args[i]) : ∀ (d i m : Nat), i + d = args.length → acc dep i d m = max m (depthL (args.drop i)) := by
  intro d
  induction d with
  | zero =>
    intro i m hi
    rw [List.drop_eq_nil_iff.2 (Nat.le_of_eq (by rw [← hi]; rfl)), acc, depthL, Nat.max_eq_left (Nat.zero_le _)]
  | succ d ih =>
    intro i m hi
    have hlt : i < args.length := by omega
    rw [acc, ih (i + 1) _ (by omega), List.drop_eq_getElem_cons hlt, depthL, hd i hlt, Nat.max_assoc]
theorem depth_le (x : S24) (b : Nat) (h : sizeT x ≤ b) : depthM x ≤ b := Nat.le_trans (depth_size _ x (Nat.le_refl _)) h

theorem Depth_ev : ∀ (n : Nat) (x : S24), sizeT x ≤ n → sizeT x ≤ 1000000 → Ev (fun k => resolventref01_Depth.f k x.f0 x.f1 x.f2 x.f3) (depthM x : Int)
  | 0, x, h, _ => absurd (Nat.le_trans (Nat.le_of_eq (sizeT_eq x).symm) h) (Nat.not_succ_le_zero _)
  | n + 1, x, h, hb => by
    have hse := sizeT_eq x
    have hlen := sizeTL_len x.f3
    have hmem : ∀ i (h : i < x.f3.length), sizeT x.f3[i] ≤ sizeTL x.f3 := fun i h => sizeT_mem _ _ (List.getElem_mem h)
    rw [hse] at h hb
    have hn : sizeTL x.f3 ≤ n := Nat.le_of_succ_le_succ h
    have hb' : sizeTL x.f3 ≤ 1000000 := Nat.le_of_succ_le hb
    have := Depth_loop x.f0 x.f1 x.f2 x.f3 (fun i => if h : i < x.f3.length then depthM x.f3[i] else 0)
      (fun i h => by
        simp only [dif_pos h]
        exact Depth_ev n x.f3[i] (Nat.le_trans (hmem i h) hn) (Nat.le_trans (hmem i h) hb'))
      (fun i => by
        by_cases h : i < x.f3.length
        · simp only [dif_pos h]
          exact depth_le _ _ (Nat.le_trans (hmem i h) hb')
        · simp only [dif_neg h]
          exact Nat.zero_le _) (Nat.le_trans hlen hb') x.f3.length 0 0 (Nat.zero_add _) (Nat.zero_le _)
    rw [acc_eq x.f3 _ (fun i h => by simp only [dif_pos h]) x.f3.length 0 0 (Nat.zero_add _), List.drop_zero, Nat.zero_max, ← depthM_eq] at this
    exact Ev.step this (fun k => by simp only [resolventref01_Depth.f]; rfl)
end Go.Proofs.YthnjdfblappkfaaDoor.RefW
end
section
/-
  The document's 'good', whole.
-/
namespace Go.Proofs.YthnjdfblappkfaaDoor.RefW
open Go.RowKit Go.Proofs.YthnjdfblappkfaaDoor.P Go.Proofs.YthnjdfblappkfaaDoorW.PrintWords Go.Proofs.YthnjdfblappkfaaDoorW.PrintLast Go.Proofs.YthnjdfblappkfaaDoorW.PrintMore
open Go Go.Proofs.YthnjdfblappkfaaDoor

theorem Shape_loop (f0 : Int) (f1 : ByteArray) (f2 : Int) (args : List S24) (hs : f1.size ≤ 1099511627776) (hx : ∀ i (h : i < args.length), Ev (fun k => resolventref01_shape.f k args[i].f0 args[i].f1 args[i].f2 args[i].f3) (shapeM args[i]))
    (hlen : args.length ≤ 1000000) : ∀ (d i : Nat), i + d = args.length →
    Ev (fun k => resolventref01_shape.l0 k (i : Int) f0 f1 f2 args) ((args.drop i).all shapeM && nodeM f0 f1 f2 args.length) := by
  intro d
  induction d with
  | zero =>
    intro i hi
    rw [List.drop_eq_nil_iff.2 (by omega), List.all_nil, Bool.true_and]
    have hN := Name1_ev f1 hs
    have hN2 : Ev (fun k => (resolventref01_Name.f k f1).bind fun t => some t) (nameOK (bl f1)) := Ev.bind hN (Ev.nows 0 fun _ => rfl)
    have h0 : ∀ n, resolventref01_shape.l0 (n + 1) (i : Int) f0 f1 f2 args = (if f0 = 1 then (if f2 ≥ 0 then (if f1.toList = ([] : List UInt8) then (some ((args.length : Int) == 0)) else (some false)) else (some false)) else (if f0 = 2 then (if f1.toList = ([] : List UInt8) then (some ((args.length : Int) == 0)) else (some false)) else (if f0 = 3 then (if f2 = 0 then (if (args.length : Int) = 0 then ((resolventref01_Name.f n f1).bind fun t168 => (some t168)) else (some false)) else (some false)) else (if f0 = 4 then (if f2 = 0 then (if (args.length : Int) > 0 then (if (args.length : Int) ≤ 16 then ((resolventref01_Name.f n f1).bind fun t169 => (some t169)) else (some false)) else (some false)) else (some false)) else (some false))))) := by
      intro n
      simp only [resolventref01_shape.l0]
      rw [if_neg (by omega)]
    have hz : ((args.length : Int) == 0) = decide (args.length = 0) := by
      rw [Bool.eq_iff_iff, beq_iff_eq, decide_eq_true_iff]
      omega
    unfold nodeM
    by_cases h1 : f0 = 1
    · refine Ev.nows 1 fun n => ?_
      rw [h0, if_pos h1, if_pos h1, tl, hz]
      by_cases a : f2 ≥ 0
      · rw [if_pos a]
        by_cases b : bl f1 = []
        · rw [if_pos b, decide_eq_true (show 0 ≤ f2 from a), decide_eq_true b]; rfl
        · rw [if_neg b, decide_eq_false b]; simp
      · rw [if_neg a, decide_eq_false (show ¬ 0 ≤ f2 from a)]; rfl
    rw [if_neg h1]
    by_cases h2 : f0 = 2
    · refine Ev.nows 1 fun n => ?_
      rw [h0, if_neg h1, if_pos h2, if_pos h2, tl, hz]
      by_cases b : bl f1 = []
      · rw [if_pos b, decide_eq_true b]; rfl
      · rw [if_neg b, decide_eq_false b]; rfl
    rw [if_neg h2]
    by_cases h3 : f0 = 3
    · rw [if_pos h3]
      by_cases a : f2 = 0
      · by_cases b : args.length = 0
        · rw [decide_eq_true a, decide_eq_true b]
          refine Ev.step hN2 fun n => ?_
          rw [h0, if_neg h1, if_neg h2, if_pos h3, if_pos a, if_pos (by omega)]
        · rw [decide_eq_true a, decide_eq_false b]
          refine Ev.nows 1 fun n => ?_
          rw [h0, if_neg h1, if_neg h2, if_pos h3, if_pos a, if_neg (by omega)]
          rfl
      · rw [decide_eq_false a]
        refine Ev.nows 1 fun n => ?_
        rw [h0, if_neg h1, if_neg h2, if_pos h3, if_neg a]
        rfl
    rw [if_neg h3]
    by_cases h4 : f0 = 4
    · rw [if_pos h4]
      by_cases a : f2 = 0
      · by_cases b : 1 ≤ args.length
        · by_cases c : args.length ≤ 16
          · rw [decide_eq_true a, decide_eq_true b, decide_eq_true c]
            refine Ev.step hN2 fun n => ?_
            rw [h0, if_neg h1, if_neg h2, if_neg h3, if_pos h4, if_pos a, if_pos (by omega), if_pos (by omega)]
          · rw [decide_eq_true a, decide_eq_true b, decide_eq_false c]
            refine Ev.nows 1 fun n => ?_
            rw [h0, if_neg h1, if_neg h2, if_neg h3, if_pos h4, if_pos a, if_pos (by omega), if_neg (by omega)]
            rfl
        · rw [decide_eq_true a, decide_eq_false b]
          refine Ev.nows 1 fun n => ?_
          rw [h0, if_neg h1, if_neg h2, if_neg h3, if_pos h4, if_pos a, if_neg (by omega)]
          rfl
      · rw [decide_eq_false a]
        refine Ev.nows 1 fun n => ?_
        rw [h0, if_neg h1, if_neg h2, if_neg h3, if_pos h4, if_neg a]
        rfl
    · rw [if_neg h4]
      refine Ev.nows 1 fun n => ?_
      rw [h0, if_neg h1, if_neg h2, if_neg h3, if_neg h4]
  | succ d ih =>
    intro i hi
    have hlt : i < args.length := by omega
    have ihl := ih (i + 1) (by omega)
    have hxi := hx i hlt
    rw [List.drop_eq_getElem_cons hlt, List.all_cons]
    obtain ⟨z, hz⟩ : ∃ z, shapeM args[i] = z := ⟨_, rfl⟩
    rw [hz] at hxi ⊢
    have hw : wrap64 ((i : Int) + 1) = ((i + 1 : Nat) : Int) := wrap_small (by omega) (by omega)
    refine Ev.step (g := fun k => (resolventref01_shape.f k args[i].f0 args[i].f1 args[i].f2 args[i].f3).bind fun t => if t = true then resolventref01_shape.l0 k ((i + 1 : Nat) : Int) f0 f1 f2 args else some false) (Ev.bind hxi ?_) (fun k => ?_)
    · cases z with
      | true => exact ihl
      | false => exact Ev.nows 0 fun _ => rfl
    · simp only [resolventref01_shape.l0]
      rw [if_pos (by omega), if_pos (by omega), rdI args i hlt, hw]

theorem Shape_ev : ∀ (n : Nat) (x : S24), sizeT x ≤ n → sizeT x ≤ 1000000 → nmT x ≤ 1099511627776 → Ev (fun k => resolventref01_shape.f k x.f0 x.f1 x.f2 x.f3) (shapeM x)
  | 0, x, h, _, _ => absurd (Nat.le_trans (Nat.le_of_eq (sizeT_eq x).symm) h) (Nat.not_succ_le_zero _)
  | n + 1, x, h, hb, hm => by
    have hse := sizeT_eq x
    have hlen := sizeTL_len x.f3
    have hmem : ∀ i (h : i < x.f3.length), sizeT x.f3[i] ≤ sizeTL x.f3 := fun i h => sizeT_mem _ _ (List.getElem_mem h)
    rw [hse] at h hb
    rw [nmT_eq] at hm
    have hn : sizeTL x.f3 ≤ n := Nat.le_of_succ_le_succ h
    have hb' : sizeTL x.f3 ≤ 1000000 := Nat.le_of_succ_le hb
    have hm1 : x.f1.size ≤ 1099511627776 := Nat.le_trans (Nat.le_max_left _ _) hm
    have hm2 : nmL x.f3 ≤ 1099511627776 := Nat.le_trans (Nat.le_max_right _ _) hm
    have hm3 := (nmL_le x.f3 1099511627776).1 hm2
    have := Shape_loop x.f0 x.f1 x.f2 x.f3 hm1 (fun i h => Shape_ev n x.f3[i] (Nat.le_trans (hmem i h) hn) (Nat.le_trans (hmem i h) hb') (hm3 _ (List.getElem_mem h))) (Nat.le_trans hlen hb') x.f3.length 0 (Nat.zero_add _)
    rw [List.drop_zero, ← shapeL_all, ← shapeM_eq] at this
    exact Ev.step this (fun k => by simp only [resolventref01_shape.f]; rfl)

theorem Good1_ev (x : S24) (hb : sizeT x ≤ 1000000) (hm : nmT x ≤ 1099511627776) : Ev (fun k => resolventref01_Good.f k x.f0 x.f1 x.f2 x.f3) (goodM 64 x) := by
  have h1 := Depth_ev _ x (Nat.le_refl _) hb
  have h2 := Shape_ev _ x (Nat.le_refl _) hb hm
  rw [goodM_eq]
  unfold resolventref01_Good.f
  refine Ev.bind h1 ?_
  by_cases hd : depthM x ≤ 64
  · rw [decide_eq_true hd, Bool.true_and]
    have h3 : Ev (fun k => (resolventref01_shape.f k x.f0 x.f1 x.f2 x.f3).bind fun t => some t) (shapeM x) := Ev.bind h2 (Ev.nows 0 fun _ => rfl)
    refine Ev.steps 0 0 h3 fun n => ?_
    rw [if_pos (show (depthM x : Int) ≤ 64 from Int.ofNat_le.2 hd)]
  · rw [decide_eq_false hd, Bool.false_and]
    refine Ev.nows 0 fun n => ?_
    rw [if_neg (show ¬ (depthM x : Int) ≤ 64 from fun h => hd (Int.ofNat_le.1 h))]

theorem Good1_calls (x : S24) (v : Value) (w : World) (hV : TermV w x v) (hb : sizeT x ≤ 1000000) (hm : nmT x ≤ 1099511627776) :
    Calls Tryd.prog 39 #[v] w fun e w' => e = .returned (.bool (goodM 64 x)) ∧ Below w.heap.size w w' := by
  obtain ⟨A, c, rfl, hc, hC⟩ := hV
  obtain ⟨k, hk⟩ := Good1_ev x hb hm
  exact resolventref01_Good.calls k x.f0 x.f1 x.f2 A c x.f3 _ w hC hc (hk k (Nat.le_refl _))
end Go.Proofs.YthnjdfblappkfaaDoor.RefW
namespace Go.Proofs.YthnjdfblappkfaaDoor
open Go.RowKit Go.Proofs.YthnjdfblappkfaaDoorW.PrintWords Go.Proofs.YthnjdfblappkfaaDoorW.PrintLast Go.Proofs.YthnjdfblappkfaaDoorW.PrintMore Go.Proofs.YthnjdfblappkfaaDoor.P

set_option maxRecDepth 100000 in
theorem GoodText_calls (k : Nat) (x : S24) (v : Value) (r : List UInt8) (w : World) (hV : TermV w x v) (hb : RefW.sizeT x ≤ 1000000) (hm : RefW.nmT x ≤ 1099511627776) (hr : goodM 64 x = true → textF k x = some r) :
    Calls Tryd.prog 16 #[v] w fun e w' => e = .returned (.string ⟨(if goodM 64 x = true then r else []).toArray⟩) ∧ Below w.heap.size w w' := by
  have hu24 := Tryd.underlying24
  obtain ⟨A, c, rfl, hc, hC⟩ := hV
  have hbx : Below w.heap.size w (w.alloc (.cells #[.int .u8 x.f0, .string x.f1, .int .i64 x.f2, .slice A x.f3.length c] 24)) := (Below.refl _ w).alloc (Nat.le_refl _) _
  have hV1 : TermV _ x _ := TermV.below ⟨A, c, rfl, hc, hC⟩ hbx
  have hT := (MapKept.heap_alloc w (.cells #[.int .u8 x.f0, .string x.f1, .int .i64 x.f2, .slice A x.f3.length c] 24)).1
  have hs1 : (w.alloc (.cells #[.int .u8 x.f0, .string x.f1, .int .i64 x.f2, .slice A x.f3.length c] 24)).heap.size = w.heap.size + 1 := World.size_alloc _ _
  have hG := RefW.Good1_calls x _ _ hV1 hb hm
  cases hg : goodM 64 x with
  | false =>
    rw [hg] at hG
    have HG := Lib.hid hG
    clear hG hr hg
    go_enter Tryd.func16, Tryd.ntmps16
    go_wp2_with (go_at_call 39; refine HG.out.mono ?_; rintro e w1 ⟨rfl, hb1⟩)
    go_ret
    exact ⟨rfl, hbx.trans (hb1.mono hbx.size)⟩
  | true =>
    rw [hg] at hG
    have HG := Lib.hid hG
    have HR := Lib.hid (hr hg)
    clear hG hr hg
    go_enter Tryd.func16, Tryd.ntmps16
    go_wp2_with (first | (go_at_call 39; refine HG.out.mono ?_; rintro e w1 ⟨rfl, hb1⟩; have hT1 := (hb1.block w.heap.size (by omega)).trans hT; have a0 := Lib.cell_of_heap hT1 0; have a1 := Lib.cell_of_heap hT1 1; have a2 := Lib.cell_of_heap hT1 2; have a3 := Lib.cell_of_heap hT1 3) | (go_at_call 40; refine (refOK k x _ r _ (hV1.below hb1) HR.out).mono ?_; rintro e w2 ⟨rfl, hb2⟩))
    go_ret
    exact ⟨rfl, (hbx.trans (hb1.mono hbx.size)).trans (hb2.mono (Nat.le_trans hbx.size hb1.size))⟩
end Go.Proofs.YthnjdfblappkfaaDoor
end
section
/-
  A good term's text is within bounds.
-/
namespace Go.Proofs.YthnjdfblappkfaaDoor.RefW
open Go.RowKit Go.Proofs.YthnjdfblappkfaaDoor.P Go.Proofs.YthnjdfblappkfaaDoorW.PrintWords Go.Proofs.YthnjdfblappkfaaDoorW.PrintLast Go.Proofs.YthnjdfblappkfaaDoorW.PrintMore
open Go Go.Proofs.YthnjdfblappkfaaDoor

mutual
/-- All numbers are 64 bits wide. -/
def numT : S24 → Bool
  | ⟨_, _, f2, l⟩ => decide (-9223372036854775808 ≤ f2) && decide (f2 ≤ 9223372036854775807) && numL l
def numL : List S24 → Bool
  | [] => true
  | x :: l => numT x && numL l
end
theorem numT_eq (x : S24) : numT x = (decide (-9223372036854775808 ≤ x.f2) && decide (x.f2 ≤ 9223372036854775807) && numL x.f3) := by cases x; simp only [numT]
theorem numL_all : ∀ l : List S24, numL l = l.all numT
  | [] => rfl
  | x :: l => by simp only [numL, List.all_cons, numL_all l]

/-- What a term must be. -/
structure Fine (x : S24) : Prop where
  shape : shapeM x = true
  num : numT x = true
  nm : nmT x ≤ 200
theorem Fine.arg {x : S24} (h : Fine x) {y : S24} (hy : y ∈ x.f3) : Fine y := by
  obtain ⟨h1, h2, h3⟩ := h
  rw [shapeM_eq, shapeL_all, Bool.and_eq_true] at h1
  rw [numT_eq, numL_all, Bool.and_eq_true] at h2
  rw [nmT_eq] at h3
  exact ⟨List.all_eq_true.1 h1.1 y hy, List.all_eq_true.1 h2.2 y hy, (nmL_le x.f3 200).1 (Nat.le_trans (Nat.le_max_right _ _) h3) y hy⟩

theorem sum_join (rs : List (List UInt8)) : (joinC rs).length ≤ (rs.map List.length).sum + rs.length := by
  cases rs with
  | nil => exact Nat.zero_le _
  | cons r l =>
    unfold joinC
    rw [Lib.join_cons]
    have : ∀ l : List (List UInt8), (Lib.joinTail [44] l).length = (l.map List.length).sum + l.length := by
      intro l
      induction l with
      | nil => rfl
      | cons a l ih =>
        have e : Lib.joinTail [44] (a :: l) = 44 :: a ++ Lib.joinTail [44] l := rfl
        rw [e, List.length_append, ih]
        simp
        omega
    rw [List.length_append, this, List.map_cons, List.sum_cons, List.length_cons]
    omega

theorem mapO_some (f : S24 → Option (List UInt8)) : ∀ xs : List S24, (∀ x ∈ xs, ∃ r, f x = some r ∧ r.length ≤ 450 * sizeT x) →
    ∃ rs, mapO f xs = some rs ∧ rs.length = xs.length ∧ (rs.map List.length).sum ≤ 450 * sizeTL xs
  | [], _ => ⟨[], rfl, rfl, Nat.zero_le _⟩
  | x :: l, h => by
    obtain ⟨r, hr, hl⟩ := h x (by simp)
    obtain ⟨rs, hrs, h1, h2⟩ := mapO_some f l (fun y hy => h y (by simp [hy]))
    refine ⟨r :: rs, by simp only [mapO, hr, hrs, Option.bind_some], by simp [h1], ?_⟩
    rw [List.map_cons, List.sum_cons]
    simp only [sizeTL]
    omega

theorem two_args (l : List S24) (h : l.length = 2) : l = [rd_T24 l 0, rd_T24 l 1] ∧ sizeTL l = sizeT (rd_T24 l 0) + sizeT (rd_T24 l 1) := by
  match l, h with
  | [a, b], _ =>
    refine ⟨rfl, ?_⟩
    show sizeTL [a, b] = sizeT a + sizeT b
    simp only [sizeTL, Nat.add_zero]

theorem spine_some : ∀ (f : Nat) (y : S24), Fine y → sizeT y + 1 ≤ 2 * f → ∃ xs rest, spine f y = some (xs, rest) ∧ sizeT y = sizeTL xs + sizeT rest + xs.length ∧ (∀ a ∈ xs, Fine a) ∧ Fine rest ∧ (consB y = true → 1 ≤ xs.length)
  | 0, y, _, h => absurd h (by omega)
  | f + 1, y, hy, h => by
    have hse := sizeT_eq y
    cases hc : consB y with
    | false =>
      refine ⟨[], y, by rw [spine, if_neg (by rw [hc]; decide)], ?_, fun a h => by simp at h, hy, fun h => by cases h⟩
      rw [sizeTL, Nat.zero_add]
      rfl
    | true =>
      obtain ⟨_, _, h2⟩ := consB_parts hc
      obtain ⟨hl, hs⟩ := two_args y.f3 h2
      have m0 : rd_T24 y.f3 0 ∈ y.f3 := by rw [hl]; simp [rd_T24]
      have m1 : rd_T24 y.f3 1 ∈ y.f3 := by rw [hl]; simp [rd_T24]
      have f0 := hy.arg m0
      have f1 := hy.arg m1
      have p0 := sizeT_eq (rd_T24 y.f3 0)
      rw [hs] at hse
      obtain ⟨s0, hs0⟩ : ∃ s, sizeT (rd_T24 y.f3 0) = s := ⟨_, rfl⟩
      obtain ⟨s1, hs1⟩ : ∃ s, sizeT (rd_T24 y.f3 1) = s := ⟨_, rfl⟩
      have hs0' : 1 ≤ s0 := by rw [← hs0, p0]; exact Nat.succ_le_succ (Nat.zero_le _)
      rw [hs0, hs1] at hse
      rw [hse] at h
      obtain ⟨xs, rest, hsp, hsz, hx, hr, _⟩ := spine_some f (rd_T24 y.f3 1) f1 (by rw [hs1]; omega)
      refine ⟨rd_T24 y.f3 0 :: xs, rest, by rw [spine, if_pos hc, hsp]; rfl, ?_, ?_, hr, fun _ => by simp⟩
      · rw [hse, sizeTL, hs0, List.length_cons]
        rw [hs1] at hsz
        rw [hsz]
        omega
      · intro a ha
        rcases List.mem_cons.1 ha with rfl | ha
        · exact f0
        · exact hx a ha

theorem nameM_len3 (s : ByteArray) (h : s.size ≤ 200) : (nameM (bl s)).length ≤ 402 ∧ (quotedL (bl s)).length ≤ 402 := by
  have h1 := nameM_len2 (bl s)
  have h2 := quotedL_len2 (bl s)
  rw [bl_length] at h1 h2
  omega

theorem text_some : ∀ (k : Nat) (x : S24), Fine x → sizeT x ≤ k → sizeT x ≤ 1000000 → ∃ r, textF k x = some r ∧ r.length ≤ 450 * sizeT x
  | 0, x, _, h, _ => absurd h (by rw [sizeT_eq]; exact Nat.not_succ_le_zero _)
  | k + 1, x, hx, hk, hb => by
    have hse := sizeT_eq x
    have hshape := hx.shape
    have hnum := hx.num
    have hnm := hx.nm
    rw [shapeM_eq, Bool.and_eq_true] at hshape
    rw [numT_eq, Bool.and_eq_true, Bool.and_eq_true, decide_eq_true_iff, decide_eq_true_iff] at hnum
    rw [nmT_eq] at hnm
    have hs200 : x.f1.size ≤ 200 := Nat.le_trans (Nat.le_max_left _ _) hnm
    obtain ⟨hn1, hn2⟩ := nameM_len3 x.f1 hs200
    have hit := Lib.itoa_length_le x.f2 hnum.1.1 hnum.1.2
    have hnode := hshape.2
    obtain ⟨S, hS⟩ : ∃ S, sizeT x = S := ⟨_, rfl⟩
    obtain ⟨L, hL⟩ : ∃ L, sizeTL x.f3 = L := ⟨_, rfl⟩
    rw [hS] at hse hk hb ⊢
    rw [hL] at hse
    unfold textF
    rw [if_neg (fun h => h ⟨hs200, hnum.1.1, hnum.1.2⟩)]
    by_cases c1 : x.f0 = 1
    · rw [if_pos c1]
      exact ⟨_, rfl, by rw [List.length_cons]; omega⟩
    rw [if_neg c1]
    by_cases c2 : x.f0 = 2
    · rw [if_pos c2]
      exact ⟨_, rfl, by omega⟩
    rw [if_neg c2]
    by_cases c3 : x.f0 = 3
    · rw [if_pos c3]
      exact ⟨_, rfl, by omega⟩
    rw [if_neg c3]
    unfold nodeM at hnode
    rw [if_neg c1, if_neg c2, if_neg c3] at hnode
    by_cases c4 : x.f0 = 4
    rotate_left
    · rw [if_neg c4] at hnode; cases hnode
    rw [if_pos c4] at hnode
    simp only [Bool.and_eq_true, decide_eq_true_eq] at hnode
    have hlen1 := hnode.1.1.2
    have hlen16 := hnode.1.2
    have hne : x.f3 ≠ [] := by
      intro h
      rw [h] at hlen1
      exact absurd hlen1 (by decide)
    rw [if_neg (fun h => h.elim (fun g => g c4) hne)]
    by_cases hc : consB x = true
    · rw [if_pos hc]
      have h2 := (consB_parts hc).2.2
      have hLl := sizeTL_len x.f3
      rw [hL, h2] at hLl
      obtain ⟨xs, rest, hsp, hsz, hxs, hrest, hm1⟩ := spine_some k x hx (by rw [hS]; omega)
      have hm := hm1 hc
      obtain ⟨LX, hLX⟩ : ∃ s, sizeTL xs = s := ⟨_, rfl⟩
      obtain ⟨SR, hSR⟩ : ∃ s, sizeT rest = s := ⟨_, rfl⟩
      have hSR1 : 1 ≤ SR := by rw [← hSR, sizeT_eq]; exact Nat.succ_le_succ (Nat.zero_le _)
      rw [hS, hLX, hSR] at hsz
      have hmem : ∀ a ∈ xs, sizeT a ≤ LX := fun a ha => by rw [← hLX]; exact sizeT_mem _ _ ha
      have hkX : LX ≤ k := by omega
      have hbX : LX ≤ 1000000 := by omega
      obtain ⟨rs, hrs, hrl, hsum⟩ := mapO_some (textF k) xs (fun a ha => text_some k a (hxs a ha) (Nat.le_trans (hmem a ha) hkX) (Nat.le_trans (hmem a ha) hbX))
      obtain ⟨q, hq, hql⟩ := text_some k rest hrest (by rw [hSR]; omega) (by rw [hSR]; omega)
      rw [hLX] at hsum
      rw [hSR] at hql
      have hj := sum_join rs
      have hsm : small rs := ⟨by omega, by omega⟩
      rw [hsp, Option.bind_some]
      simp only []
      rw [hrs, Option.bind_some, if_pos hsm]
      by_cases hr3 : rest.f0 ≠ 3 ∨ bl rest.f1 ≠ [91, 93]
      · rw [if_pos hr3, hq, Option.bind_some, if_pos (by omega)]
        refine ⟨_, rfl, ?_⟩
        simp only [List.length_append, List.length_cons, List.length_nil]
        omega
      · rw [if_neg hr3]
        refine ⟨_, rfl, ?_⟩
        simp only [List.length_append, List.length_cons, List.length_nil]
        omega
    · rw [if_neg hc]
      have hmem : ∀ a ∈ x.f3, sizeT a ≤ L := fun a ha => by rw [← hL]; exact sizeT_mem _ _ ha
      have hkL : L ≤ k := by omega
      have hbL : L ≤ 1000000 := by omega
      obtain ⟨rs, hrs, hrl, hsum⟩ := mapO_some (textF k) x.f3 (fun a ha => text_some k a (hx.arg ha) (Nat.le_trans (hmem a ha) hkL) (Nat.le_trans (hmem a ha) hbL))
      rw [hL] at hsum
      have hj := sum_join rs
      have hsm : small rs := ⟨by omega, by omega⟩
      rw [hrs, Option.bind_some, if_pos hsm]
      refine ⟨_, rfl, ?_⟩
      by_cases hn : bl x.f1 = [91, 93]
      · rw [if_pos hn]
        simp only [List.length_append, List.length_cons, List.length_nil]
        omega
      · rw [if_neg hn]
        simp only [List.length_append, List.length_cons, List.length_nil]
        omega
end Go.Proofs.YthnjdfblappkfaaDoor.RefW
end
