/-
  WriteParts: the plain half.
-/
import Derived.Test.YthnjdfblappkfaaDoorApart
namespace Go.Proofs.YthnjdfblappkfaaDoor.RefW
open Go.RowKit Go.Proofs.YthnjdfblappkfaaDoor.P Go.Proofs.YthnjdfblappkfaaDoorW.PrintWords Go.Proofs.YthnjdfblappkfaaDoorW.PrintLast Go.Proofs.YthnjdfblappkfaaDoorW.PrintMore
open Go Go.Proofs.YthnjdfblappkfaaDoor

/-- The list of some terms. -/
def lstM : List S24 → S24
  | [] => ⟨3, ⟨#[91, 93]⟩, 0, []⟩
  | x :: l => ⟨4, ⟨#[46]⟩, 0, [x, lstM l]⟩
theorem sizeT_lst : ∀ l : List S24, sizeT (lstM l) = sizeTL l + l.length + 1
  | [] => by simp only [lstM, sizeT, sizeTL, List.length_nil]
  | x :: l => by
    have := sizeT_lst l
    simp only [lstM, sizeT, sizeTL, List.length_cons, this]
    omega
theorem numT_lst : ∀ l : List S24, numL l = true → numT (lstM l) = true
  | [], _ => by decide
  | x :: l, h => by
    simp only [numL, Bool.and_eq_true] at h
    have := numT_lst l h.2
    simp only [lstM, numT, numL, this, h.1]
    decide
theorem nmT_lst (d : Nat) (hd : 2 ≤ d) : ∀ l : List S24, nmL l ≤ d → nmT (lstM l) ≤ d
  | [], _ => by
    simp only [lstM, nmT, nmL]
    exact Nat.max_le.2 ⟨hd, Nat.zero_le _⟩
  | x :: l, h => by
    simp only [nmL] at h
    obtain ⟨h1, h2⟩ := Nat.max_le.1 h
    have := nmT_lst d hd l h2
    simp only [lstM, nmT, nmL]
    exact Nat.max_le.2 ⟨Nat.le_trans (by decide) hd, Nat.max_le.2 ⟨h1, Nat.max_le.2 ⟨this, Nat.zero_le _⟩⟩⟩
theorem consB_lst (x : S24) (l : List S24) : consB (lstM (x :: l)) = true := rfl
theorem spine_lst : ∀ (k : Nat) (l : List S24), l.length + 1 ≤ k → spine k (lstM l) = some (l, lstM [])
  | 0, l, h => absurd h (by omega)
  | k + 1, [], _ => by
    unfold spine
    rw [if_neg (by decide)]
  | k + 1, x :: l, h => by
    have := spine_lst k l (by simp only [List.length_cons] at h; omega)
    unfold spine
    rw [if_pos (consB_lst x l), show rd_T24 (lstM (x :: l)).f3 1 = lstM l from rfl, this, Option.bind_some, show rd_T24 (lstM (x :: l)).f3 0 = x from rfl]
theorem text_lst {k : Nat} {l : List S24} {rs : List (List UInt8)} {r : List UInt8} (hne : l ≠ []) (hm : mapO (textF k) l = some rs) (hk : l.length + 1 ≤ k) (h : textF (k + 1) (lstM l) = some r) : r = 91 :: (joinC rs ++ [93]) := by
  cases l with
  | nil => exact absurd rfl hne
  | cons x l =>
    unfold textF at h
    split at h
    · cases h
    rw [if_neg (show ¬ (lstM (x :: l)).f0 = 1 from fun q => absurd (show (4 : Int) = 1 from q) (by decide)), if_neg (show ¬ (lstM (x :: l)).f0 = 2 from fun q => absurd (show (4 : Int) = 2 from q) (by decide)), if_neg (show ¬ (lstM (x :: l)).f0 = 3 from fun q => absurd (show (4 : Int) = 3 from q) (by decide)),
      if_neg (show ¬ ((lstM (x :: l)).f0 ≠ 4 ∨ (lstM (x :: l)).f3 = []) from fun q => q.elim (fun g => g rfl) (fun g => absurd (show [x, lstM l] = [] from g) (by simp))), if_pos (consB_lst x l), spine_lst k (x :: l) hk, Option.bind_some] at h
    simp only [] at h
    rw [hm, Option.bind_some] at h
    split at h
    · rw [if_neg (show ¬ ((lstM []).f0 ≠ 3 ∨ bl (lstM []).f1 ≠ [91, 93]) from fun q => q.elim (fun g => g rfl) (fun g => g rfl))] at h
      rw [← Option.some.inj h]
      rfl
    · cases h
theorem inn_step (rs : List (List UInt8)) (i : Nat) (h : i < rs.length) : joinC (rs.drop i) = rs[i] ++ (if i + 1 < rs.length then 44 :: joinC (rs.drop (i + 1)) else joinC (rs.drop (i + 1))) := by
  rw [List.drop_eq_getElem_cons h]
  unfold joinC
  rw [Lib.join_cons]
  cases hd : rs.drop (i + 1) with
  | nil =>
    have := congrArg List.length hd
    rw [List.length_drop, List.length_nil] at this
    rw [if_neg (by omega)]
    rfl
  | cons a t =>
    have := congrArg List.length hd
    rw [List.length_drop, List.length_cons] at this
    rw [if_pos (by omega), Lib.join_cons]
    unfold Lib.joinTail
    simp
theorem mapO_at {f : S24 → Option (List UInt8)} : ∀ {l : List S24} {rs : List (List UInt8)}, mapO f l = some rs → ∀ i (hi : i < l.length) (hr : i < rs.length), f l[i] = some rs[i]
  | [], _, _, i, hi, _ => absurd hi (Nat.not_lt_zero _)
  | x :: l, rs, h, i, hi, hr => by
    obtain ⟨r, ss, h1, h2, rfl⟩ := mapO_cons h
    cases i with
    | zero => exact h1
    | succ i => exact mapO_at h2 i (by simpa using hi) (by simpa using hr)
theorem join_drop_len (rs : List (List UInt8)) (n : Nat) (h : (rs.map List.length).sum + rs.length ≤ n) : ∀ j, (joinC (rs.drop j)).length ≤ n := by
  intro j
  refine Nat.le_trans (sum_join _) (Nat.le_trans ?_ h)
  have h1 : ((rs.drop j).map List.length).sum ≤ (rs.map List.length).sum := by
    conv => rhs; rw [← List.take_append_drop j rs, List.map_append, List.sum_append]
    exact Nat.le_add_left _ _
  have h2 : (rs.drop j).length ≤ rs.length := by rw [List.length_drop]; omega
  omega

/-- What the law compares where the structure is good. -/
structure PartsIs (s : ByteArray) (l : List S24) (rs : List (List UInt8)) : Prop where
  len : rs.length = l.length
  arg : ∀ i (hi : i < l.length) (hr : i < rs.length), textF 3999 l[i] = some rs[i] ∧ goodM 64 l[i] = true
  str : consB ⟨4, s, 0, l⟩ = false → textF 4000 ⟨4, s, 0, l⟩ = some (nameS (bl s) ++ 40 :: (joinC rs ++ [41]))
  some_ : ∃ r, textF 4000 ⟨4, s, 0, l⟩ = some r ∧ r.length ≤ 1000000
  lst : goodM 64 (lstM l) = true → textF 4000 (lstM l) = some (91 :: (joinC rs ++ [93]))
  atomG : goodM 64 ⟨3, s, 0, []⟩ = true
  atomT : textF 4000 ⟨3, s, 0, []⟩ = some (nameM (bl s))
  inn : ∀ j, (joinC (rs.drop j)).length ≤ 1000000
theorem parts_is (s : ByteArray) (l : List S24) (hg : goodM 64 ⟨4, s, 0, l⟩ = true) (hne : l ≠ []) (hs : s.size ≤ 200) (hnum : numL l = true) (hsz : sizeTL l ≤ 1000) (hnm : nmL l ≤ 199) : ∃ rs, PartsIs s l rs := by
  rw [goodM_eq, Bool.and_eq_true, decide_eq_true_iff, depthM_eq] at hg
  obtain ⟨hdep, hsh⟩ := hg
  have hnT : numT ⟨4, s, 0, l⟩ = true := by
    simp only [numT, hnum]
    decide
  have hnmT : nmT ⟨4, s, 0, l⟩ ≤ 200 := by
    simp only [nmT]
    exact Nat.max_le.2 ⟨hs, Nat.le_trans hnm (by decide)⟩
  have fT : Fine ⟨4, s, 0, l⟩ := ⟨hsh, hnT, hnmT⟩
  have fA : ∀ a ∈ l, Fine a := fun a ha => fT.arg ha
  have hdl : ∀ a ∈ l, depthM a ≤ 64 := fun a ha => Nat.le_trans ((depthL_le l 63).1 (by show depthL l ≤ 63; have : depthL l + 1 ≤ 64 := hdep; omega) a ha) (by decide)
  have hlen := sizeTL_len l
  obtain ⟨rs, hrs, hrl, hsum⟩ := mapO_some (textF 3999) l (fun a ha => text_some 3999 a (fA a ha) (Nat.le_trans (sizeT_mem l a ha) (Nat.le_trans hsz (by decide))) (Nat.le_trans (sizeT_mem l a ha) (Nat.le_trans hsz (by decide))))
  have hsT : sizeT ⟨4, s, 0, l⟩ ≤ 1001 := by
    simp only [sizeT]
    omega
  have hnode : nodeM 4 s 0 l.length = true := fT.node
  have hname : nameOK (bl s) = true := by
    unfold nodeM at hnode
    rw [if_neg (by decide), if_neg (by decide), if_neg (by decide), if_pos rfl] at hnode
    simp only [Bool.and_eq_true] at hnode
    exact hnode.2
  refine ⟨rs, hrl, ?_, ?_, ?_, ?_, ?_, ?_, ?_⟩
  · intro i hi hr
    refine ⟨mapO_at hrs i hi hr, ?_⟩
    rw [goodM_eq, Bool.and_eq_true, decide_eq_true_iff]
    exact ⟨hdl _ (List.getElem_mem hi), (fA _ (List.getElem_mem hi)).shape⟩
  · intro hc
    obtain ⟨r, hr, _⟩ := text_some 4000 _ fT (Nat.le_trans hsT (by decide)) (Nat.le_trans hsT (by decide))
    rcases text_form fT hr with ⟨h4, _⟩ | ⟨h4, _⟩ | ⟨_, _, rs', hm', rfl⟩
    · exact absurd rfl h4
    · rw [hc] at h4; cases h4
    · have hm' : mapO (textF 3999) l = some rs' := hm'
      rw [hrs] at hm'
      rw [hr, Option.some.inj hm']
  · obtain ⟨r, hr, hrl⟩ := text_some 4000 _ fT (Nat.le_trans hsT (by decide)) (Nat.le_trans hsT (by decide))
    refine ⟨r, hr, Nat.le_trans hrl ?_⟩
    exact Nat.le_trans (Nat.mul_le_mul_left 450 hsT) (by decide)
  · intro hgl
    rw [goodM_eq, Bool.and_eq_true] at hgl
    have fL : Fine (lstM l) := ⟨hgl.2, numT_lst l hnum, nmT_lst 200 (by decide) l (Nat.le_trans hnm (by decide))⟩
    have hsL : sizeT (lstM l) ≤ 2001 := by
      rw [sizeT_lst]
      omega
    obtain ⟨r, hr, _⟩ := text_some 4000 _ fL (Nat.le_trans hsL (by decide)) (Nat.le_trans hsL (by decide))
    rw [hr, text_lst hne hrs (by omega) hr]
  · rw [goodM_eq, Bool.and_eq_true, decide_eq_true_iff]
    refine ⟨by simp only [depthM, depthL]; decide, ?_⟩
    have hn3 : nodeM 3 s 0 0 = true := by
      unfold nodeM
      rw [if_neg (by decide), if_neg (by decide), if_pos rfl, hname]
      rfl
    simp [shapeM, shapeL, hn3]
  · unfold textF
    rw [if_neg (fun h => h ⟨hs, by show (-9223372036854775808 : Int) ≤ 0; decide, by show (0 : Int) ≤ 9223372036854775807; decide⟩), if_neg (show ¬ (3 : Int) = 1 by decide), if_neg (show ¬ (3 : Int) = 2 by decide), if_pos rfl]
  · refine join_drop_len rs 1000000 ?_
    rw [hrl]
    omega
end Go.Proofs.YthnjdfblappkfaaDoor.RefW
