/- Several small texts of this claim in one. -/
import Derived.Test.YthnjdfblappkfaaDoorCut
import Derived.Test.YthnjdfblappkfaaDoorShelfW
import Derived.Test.YthnjdfblappkfaaDoorWLaid
section
/-
  write.cutLeft: the text behind the longest head all of whose bytes are in a set of ASCII bytes.
-/
namespace Go.Proofs.YthnjdfblappkfaaDoor
open Go.RowKit

set_option maxHeartbeats 1000000 in
set_option maxRecDepth 100000 in
theorem write_cutLeft.walk (s set : ByteArray) (w : World) (ha : ascii set = true) :
    Calls Tryd.prog 69 #[.string s, .string set] w fun e w' => e = .returned (.string (s.extract (headLen set s) s.size)) ∧ Below w.heap.size w w' := by
  have HA := Lib.hid ha
  clear ha
  go_enter Tryd.func69, Tryd.ntmps69
  go_wp2
  go_loopw [7] (fun _ wr => ∃ (pos : Nat), pos ≤ s.size ∧ wr.heap[w.heap.size]? = some (.stringIter s pos) ∧ allIn set s pos ∧ Below w.heap.size w wr) (fun _ wr => s.size - wr.iterPos w.heap.size)
  case atStart => exact ⟨0, Nat.zero_le _, World.iter_heap _ _ _, allIn_zero _ _, (Below.refl _ _).alloc (Nat.le_refl _) _⟩
  case round =>
    obtain ⟨pos, hp, hit, hall, hb⟩ := hrel
    by_cases hlt : pos < s.size
    · have hnx : ∀ ty, (Instr.next (.pointer (some ⟨w.heap.size, 0, none⟩)) true ty).run Tryd.prog wr = _ := fun ty => Lib.run_next_any_at wr w.heap.size s pos ty hit hlt
      go_wp2
      have b1 := Lib.below_iterAt hb (k := w.heap.size) (Nat.le_refl _) s (pos + (Utf8.decode s pos).2)
      have h1 := Lib.iterAt_heap wr w.heap.size s pos (pos + (Utf8.decode s pos).2) hit
      have hsz : w.heap.size < (wr.iterAt w.heap.size s (pos + (Utf8.decode s pos).2)).heap.size := (Array.getElem?_eq_some_iff.1 h1).1
      generalize wr.iterAt w.heap.size s (pos + (Utf8.decode s pos).2) = W1 at b1 h1 hsz ⊢
      have hr := rune_in set s pos hlt HA.out
      have HR := Lib.hid hr
      clear hr
      go_loopw [7, 9] (fun v7 _ w' => ∃ (j : Nat), j ≤ set.size ∧ v7 = .bool (hasRune set (Utf8.decode s pos).1 j) ∧ w' = W1.iter set j) (fun _ _ w' => set.size - w'.iterPos W1.heap.size)
      case atStart => exact ⟨0, Nat.zero_le _, by rw [hasRune_zero], rfl⟩
      case round =>
        obtain ⟨j, hj, rfl, rfl⟩ := hrel
        by_cases hlj : j < set.size
        · have hnx2 : ∀ ty, (Instr.next (.pointer (some ⟨W1.heap.size, 0, none⟩)) true ty).run Tryd.prog (W1.iter set j) = _ := fun ty => run_next_ascii W1 set j ty hlj (ascii_at set HA.out j hlj)
          go_wp2
          all_goals
            go_roundw
            case rel => exact ⟨j + 1, by omega, by first | exact hasRune_yes hlj (by assumption) | exact hasRune_no hlj (by assumption), rfl⟩
            case measure => simp; omega
        · obtain rfl : j = set.size := by omega
          have hnx2 : ∀ ty, (Instr.next (.pointer (some ⟨W1.heap.size, 0, none⟩)) true ty).run Tryd.prog (W1.iter set set.size) = _ := fun ty => run_next_end W1 set set.size ty (by omega)
          have e1 := HR.out.1
          have e2 := HR.out.2
          cases hi : inSet set s[pos] with
          | true =>
            rw [hi] at e1
            have e3 := Lib.hid (e2 hi)
            have hall' := allIn_succ hall hlt hi
            clear e2 hi hall HR
            go_wp2
            go_roundw
            case rel => exact ⟨pos + 1, by omega, by rw [← e3.out]; exact (Below.heap_alloc W1 _ _ hsz).trans h1, hall', b1.alloc (Nat.le_of_lt hsz) _⟩
            case measure =>
              have q := iterPos_of (w := W1.iter set set.size) ((Below.heap_alloc W1 (.stringIter set set.size) _ hsz).trans h1)
              rw [q, iterPos_of hit, e3.out]
              omega
          | false =>
            rw [hi] at e1
            have hk := Lib.hid (headLen_at set s pos hlt hall hi)
            clear e2 hi hall HR
            go_wp2
            go_ret
            refine ⟨?_, b1.alloc (Nat.le_of_lt hsz) _⟩
            rw [hk.out]
            rfl
    · obtain rfl : pos = s.size := by omega
      have hnx : ∀ ty, (Instr.next (.pointer (some ⟨w.heap.size, 0, none⟩)) true ty).run Tryd.prog wr = _ := fun ty => Lib.run_next_end_at wr w.heap.size s s.size ty hit hlt
      go_wp2
      go_ret
      refine ⟨?_, hb⟩
      rw [headLen_all set s hall, extract_end]
      rfl
end Go.Proofs.YthnjdfblappkfaaDoor
end
section
/-
  write.cutRight: the text ahead of the longest tail all of whose bytes are in a set of ASCII bytes.
-/
namespace Go.Proofs.YthnjdfblappkfaaDoor
open Go.RowKit

def cutRL (set : ByteArray) (l : List UInt8) : List UInt8 := (l.reverse.dropWhile (inSet set)).reverse
theorem cutRL_nil (set : ByteArray) : cutRL set [] = [] := rfl
theorem cutRL_in (set : ByteArray) (l : List UInt8) (b : UInt8) (h : inSet set b = true) : cutRL set (l ++ [b]) = cutRL set l := by
  unfold cutRL
  rw [List.reverse_append, List.reverse_singleton, List.singleton_append, List.dropWhile_cons_of_pos h]
theorem cutRL_out (set : ByteArray) (l : List UInt8) (b : UInt8) (h : inSet set b = false) : cutRL set (l ++ [b]) = l ++ [b] := by
  unfold cutRL
  rw [List.reverse_append, List.reverse_singleton, List.singleton_append, List.dropWhile_cons_of_neg (by simp [h])]
  simp

theorem decodeL_hi (l : List UInt8) (b : UInt8) (r : List UInt8) (h : l = b :: r) (hd : (Lib.decodeL l).1 < 128) : b.toNat < 128 ∧ (Lib.decodeL l).2 = 1 := by
  subst h
  unfold Lib.decodeL at hd ⊢
  have hp : 0 < (⟨(b :: r).toArray⟩ : ByteArray).size := by show 0 < (b :: r).length; simp
  by_cases hb : b.toNat < 128
  · exact ⟨hb, by rw [decode_ascii _ 0 hp hb]⟩
  · have := (decode_high ⟨(b :: r).toArray⟩ 0 hp (by show 128 ≤ b.toNat; omega)).1
    omega

/-- The last rune of a text: an ASCII byte is itself; behind another byte it is no ASCII rune. -/
theorem last_rune (l : List UInt8) (b : UInt8) : (b.toNat < 128 → Lib.decodeLastL (l ++ [b]) = (b.toNat, 1)) ∧ (128 ≤ b.toNat → 128 ≤ (Lib.decodeLastL (l ++ [b])).1) := by
  have hg : ((l ++ [b]).getD ((l ++ [b]).length - 1) 0) = b := by simp
  constructor
  · intro h
    unfold Lib.decodeLastL
    rw [if_neg (by simp), hg, if_pos h]
  · intro h
    unfold Lib.decodeLastL
    rw [if_neg (by simp), hg, if_neg (by omega)]
    simp only []
    split
    · rename_i hw
      rcases Nat.lt_or_ge (Lib.decodeL ((l ++ [b]).drop (Lib.lastStart (l ++ [b])))).1 128 with hlt | hge
      · cases hd : (l ++ [b]).drop (Lib.lastStart (l ++ [b])) with
        | nil =>
          exfalso
          have hl := congrArg List.length hd
          rw [List.length_drop, List.length_nil] at hl
          rw [hd] at hw
          have e0 : (Lib.decodeL ([] : List UInt8)).2 = 1 := by decide
          rw [e0] at hw
          omega
        | cons c r =>
          obtain ⟨hc, h1⟩ := decodeL_hi _ c r hd hlt
          rw [h1] at hw
          have hlen := congrArg List.length hd
          rw [List.length_drop] at hlen
          have hr : r = [] := by
            cases r with
            | nil => rfl
            | cons _ _ => simp at hlen hw; omega
          subst hr
          have := congrArg List.getLast? hd
          rw [List.getLast?_drop] at this
          simp at this hw hlen
          obtain ⟨_, rfl⟩ := this
          omega
      · exact hge
    · show 128 ≤ Utf8.runeError
      decide

theorem rune_last_in (set : ByteArray) (l : List UInt8) (b : UInt8) (ha : ascii set = true) :
    hasRune set (Lib.decodeLastL (l ++ [b])).1 set.size = inSet set b ∧ (inSet set b = true → (Lib.decodeLastL (l ++ [b])).2 = 1) := by
  obtain ⟨h1, h2⟩ := last_rune l b
  by_cases hb : b.toNat < 128
  · rw [h1 hb]
    exact ⟨(inSet_lo _ _).symm, fun _ => rfl⟩
  · rw [hasRune_hi set _ ha (h2 (by omega)), inSet_hi set _ ha (by omega)]
    exact ⟨rfl, fun h => by cases h⟩

theorem bl_mk (l : List UInt8) : bl ⟨l.toArray⟩ = l := rfl
theorem mk_bl (t : ByteArray) : (⟨(bl t).toArray⟩ : ByteArray) = t := bl_ext rfl

set_option maxHeartbeats 1000000 in
set_option maxRecDepth 100000 in
theorem write_cutRight.walk (s set : ByteArray) (w : World) (ha : ascii set = true) (hs : s.size ≤ 140737488355328) (hL : LaidW w) :
    Calls Tryd.prog 68 #[.string s, .string set] w fun e w' => e = .returned (.string ⟨(cutRL set (bl s)).toArray⟩) ∧ Below w.heap.size w w' := by
  have HA := Lib.hid ha
  clear ha
  go_enter Tryd.func68, Tryd.ntmps68
  go_wp2
  go_loopw [0, 7] (fun v0 _ wr => ∃ (t : ByteArray), v0 = .string t ∧ t.size ≤ s.size ∧ cutRL set (bl t) = cutRL set (bl s) ∧ Below w.heap.size w wr) (fun v0 _ _ => match v0 with | .string t => t.size | _ => 0)
  case atStart => exact ⟨s, rfl, Nat.le_refl _, rfl, Below.refl _ _⟩
  case round =>
    obtain ⟨t, rfl, hts, hc, hb⟩ := hrel
    have hLr : LaidW wr := hL.below hb
    by_cases h0 : t.size = 0
    · have h0' : decide (0 < t.size) = false := by simp [h0]
      go_wp2
      go_ret
      refine ⟨?_, hb⟩
      have h1 : bl t = [] := List.length_eq_zero_iff.1 h0
      have h2 : t = ⟨#[]⟩ := bl_ext h1
      subst h2
      show Ending.returned (Value.string ⟨#[]⟩) = _
      rw [← hc]
      rfl
    · have h0' : decide (0 < t.size) = true := by simp; omega
      obtain ⟨l, b, hlb⟩ : ∃ l b, bl t = l ++ [b] := ⟨(bl t).dropLast, (bl t).getLast (by intro h; exact h0 (by rw [← bl_length, h]; rfl)), (List.dropLast_concat_getLast _).symm⟩
      have hlen : t.size = l.length + 1 := by rw [← bl_length, hlb]; simp
      go_wp2_with (go_at_call 105; refine (Tryd.utf8_DecodeLastRuneInString t wr (by omega) hLr.tabs).mono ?_; rintro e w1 ⟨rfl, hb1⟩)
      have hr := rune_last_in set l b HA.out
      have HR := Lib.hid hr
      clear hr
      generalize hdl : Lib.decodeLastL (l ++ [b]) = d at HR ⊢
      go_loopw [7, 9] (fun v7 _ w' => ∃ (j : Nat), j ≤ set.size ∧ v7 = .bool (hasRune set d.1 j) ∧ w' = w1.iter set j) (fun _ _ w' => set.size - w'.iterPos w1.heap.size)
      case atStart => exact ⟨0, Nat.zero_le _, by rw [hasRune_zero], rfl⟩
      case round =>
        obtain ⟨j, hj, rfl, rfl⟩ := hrel
        by_cases hlj : j < set.size
        · have hnx2 : ∀ ty, (Instr.next (.pointer (some ⟨w1.heap.size, 0, none⟩)) true ty).run Tryd.prog (w1.iter set j) = _ := fun ty => run_next_ascii w1 set j ty hlj (ascii_at set HA.out j hlj)
          go_wp2
          all_goals
            go_roundw
            case rel => exact ⟨j + 1, by omega, by first | exact hasRune_yes hlj (by assumption) | exact hasRune_no hlj (by assumption), rfl⟩
            case measure => simp; omega
        · obtain rfl : j = set.size := by omega
          have hnx2 : ∀ ty, (Instr.next (.pointer (some ⟨w1.heap.size, 0, none⟩)) true ty).run Tryd.prog (w1.iter set set.size) = _ := fun ty => run_next_end w1 set set.size ty (by omega)
          have e1 := HR.out.1
          have e2 := HR.out.2
          have hsz : wr.heap.size ≤ w1.heap.size := hb1.size
          cases hi : inSet set b with
          | true =>
            rw [hi] at e1
            have e3 : d.2 = 1 := e2 hi
            clear e2 HR
            go_wp2
            have hx : bl (t.extract 0 l.length) = l := by rw [bl_extract, List.drop_zero, hlb]; simp
            have hxs : (t.extract 0 l.length).size = l.length := by rw [← bl_length, hx]
            exact ⟨⟨_, rfl, by omega, by rw [hx, ← hc, hlb, cutRL_in set l b hi], (hb.trans (hb1.mono hb.size)).alloc (Nat.le_trans hb.size hsz) _⟩, by show (t.extract 0 l.length).size < t.size; omega⟩
          | false =>
            rw [hi] at e1
            clear e2 HR
            go_wp2
            go_ret
            refine ⟨?_, (hb.trans (hb1.mono hb.size)).alloc (Nat.le_trans hb.size hsz) _⟩
            rw [← hc, hlb, cutRL_out set l b hi, ← hlb, mk_bl]
            rfl
end Go.Proofs.YthnjdfblappkfaaDoor
end
section
/-
  write.plain: whether a name is written as it stands.
-/
namespace Go.Proofs.YthnjdfblappkfaaDoor
open Go.RowKit

theorem dropWhile_nil (p : UInt8 → Bool) : ∀ l : List UInt8, l.dropWhile p = [] ↔ ∀ b ∈ l, p b = true
  | [] => by simp
  | b :: l => by
    by_cases h : p b = true
    · rw [List.dropWhile_cons_of_pos h, dropWhile_nil p l]
      simp [h]
    · rw [List.dropWhile_cons_of_neg h]
      simp [h]
theorem takeWhile_mem (p : UInt8 → Bool) : ∀ (l : List UInt8) (b : UInt8), b ∈ l.takeWhile p → p b = true
  | [], b, hb => by simp at hb
  | c :: l, b, hb => by
    by_cases h : p c = true
    · rw [List.takeWhile_cons_of_pos h] at hb
      rcases List.mem_cons.1 hb with rfl | hb
      · exact h
      · exact takeWhile_mem p l b hb
    · rw [List.takeWhile_cons_of_neg h] at hb
      simp at hb
theorem cutRL_eq_nil (set : ByteArray) (l : List UInt8) : cutRL set l = [] ↔ ∀ b ∈ l, inSet set b = true := by
  unfold cutRL
  rw [List.reverse_eq_nil_iff, dropWhile_nil]
  simp
theorem takeWhile_drop (p : UInt8 → Bool) : ∀ l : List UInt8, l.drop (l.takeWhile p).length = l.dropWhile p
  | [] => rfl
  | b :: l => by
    by_cases h : p b = true
    · rw [List.takeWhile_cons_of_pos h, List.dropWhile_cons_of_pos h, List.length_cons, List.drop_succ_cons, takeWhile_drop p l]
    · rw [List.takeWhile_cons_of_neg h, List.dropWhile_cons_of_neg h]; rfl
theorem only_eq (set s : ByteArray) : (cutRL set (bl (s.extract (headLen set s) s.size)) = []) ↔ (bl s).all (inSet set) = true := by
  rw [cutRL_eq_nil, bl_from]
  unfold headLen
  rw [takeWhile_drop, List.all_eq_true]
  constructor
  · intro h b hb
    rw [← List.takeWhile_append_dropWhile (p := inSet set) (l := bl s)] at hb
    rcases List.mem_append.1 hb with hb | hb
    · exact takeWhile_mem _ _ _ hb
    · exact h b hb
  · intro h b hb
    exact h b ((List.dropWhile_sublist _).subset hb)

set_option maxHeartbeats 1000000 in
theorem write_plain1.walk (s set : ByteArray) (b : Nat) (w : World) (hc : w.cell? ⟨b, 0, none⟩ = some (.string s)) (ha : ascii set = true) (hs : s.size ≤ 140737488355328) (hL : LaidW w) :
    Calls Tryd.prog 67 #[.string set, .pointer (some ⟨b, 0, none⟩)] w fun e w' => e = .returned (.bool ((bl s).all (inSet set))) ∧ Below w.heap.size w w' := by
  have HA := Lib.hid ha
  clear ha
  go_enter Tryd.func67, Tryd.ntmps67
  go_wp2_with (go_at_call 69; refine (write_cutLeft.walk s set w HA.out).mono ?_; rintro e w1 ⟨rfl, hb1⟩)
  have hsz : (s.extract (headLen set s) s.size).size ≤ 140737488355328 := by rw [ba_from_size]; omega
  have hE := Lib.hid (only_eq set s)
  have HX := Lib.hid (hL.below hb1)
  generalize s.extract (headLen set s) s.size = t at hsz hE ⊢
  go_wp2_with (go_at_call 68; refine (write_cutRight.walk t set w1 HA.out hsz HX.out).mono ?_; rintro e w2 ⟨rfl, hb2⟩)
  go_ret
  refine ⟨?_, hb1.trans (hb2.mono hb1.size)⟩
  show Ending.returned (Value.bool (cutRL set (bl t)).isEmpty) = _
  have : (cutRL set (bl t)).isEmpty = (bl s).all (inSet set) := by
    rw [Bool.eq_iff_iff, List.isEmpty_iff]
    exact hE.out
  rw [this]

theorem all_data (s : ByteArray) (p : UInt8 → Bool) : s.data.all p 0 s.size = (bl s).all p := by
  show s.data.all p = _
  rw [← Array.all_toList]
theorem teq (s : ByteArray) (l : List UInt8) : (s.toList == l) = decide (bl s = l) := by
  rw [ByteArray.toList_eq, Bool.eq_iff_iff]; simp
theorem tempty (s : ByteArray) : s.toList.isEmpty = decide (bl s = []) := by
  rw [ByteArray.toList_eq, Bool.eq_iff_iff]; simp
theorem bytesAll (q : UInt8 → Bool) (h : (List.range 256).all (fun n => q (UInt8.ofNat n)) = true) (b : UInt8) : q b = true := by
  have := List.all_eq_true.1 h b.toNat (List.mem_range.2 b.toNat_lt)
  simpa using this

def lowers : ByteArray := ⟨#[97, 98, 99, 100, 101, 102, 103, 104, 105, 106, 107, 108, 109, 110, 111, 112, 113, 114, 115, 116, 117, 118, 119, 120, 121, 122]⟩
def letters : ByteArray := ⟨#[97, 98, 99, 100, 101, 102, 103, 104, 105, 106, 107, 108, 109, 110, 111, 112, 113, 114, 115, 116, 117, 118, 119, 120, 121, 122, 65, 66, 67, 68, 69, 70, 71, 72, 73, 74, 75, 76, 77, 78, 79, 80, 81, 82, 83, 84, 85, 86, 87, 88, 89, 90, 95, 48, 49, 50, 51, 52, 53, 54, 55, 56, 57]⟩
def symbols : ByteArray := ⟨#[43, 45, 42, 47, 92, 94, 60, 62, 61, 126, 58, 46, 63, 64, 35, 38, 36]⟩

theorem lowers_at (c : UInt8) : decide (0 ≤ Lib.indexByte lowers.data.toList c) = inSet lowers c := by
  have := bytesAll (fun c => decide (0 ≤ Lib.indexByte lowers.data.toList c) == inSet lowers c) (by kernel_rfl) c
  simpa using this
theorem contains_lowers (s : ByteArray) (c : UInt8) (r : List UInt8) (w : World) (h : bl s = c :: r) :
    Calls Tryd.prog 71 #[.string lowers, .string (s.extract 0 1)] w fun e w' => e = .returned (.bool (inSet lowers c)) ∧ w' = w := by
  have e : s.extract 0 1 = ⟨#[c]⟩ := by
    apply bl_ext
    rw [bl_extract, h]
    rfl
  rw [e, ← lowers_at]
  exact Tryd.strings_Contains_one lowers c w
theorem ascii_letters : ascii letters = true := by kernel_rfl
theorem ascii_symbols : ascii symbols = true := by kernel_rfl

/-- Whether a name is written as it stands. -/
def plainM (l : List UInt8) : Bool :=
  if l = [] ∨ l = [46] ∨ ([47, 42] : List UInt8).isPrefixOf l = true then false
  else if l = [33] ∨ l = [59] ∨ l = [91, 93] then true
  else if inSet lowers (l.headD 0) = true then l.all (inSet letters)
  else l.all (inSet symbols)

set_option maxHeartbeats 1000000 in
theorem write_plain.walk (s : ByteArray) (w : World) (hs : s.size ≤ 140737488355328) (hL : LaidW w) :
    Calls Tryd.prog 41 #[.string s] w fun e w' => e = .returned (.bool (plainM (bl s))) ∧ Below w.heap.size w w' := by
  have c0 := tempty s
  have c1 := teq s [46]
  have c3 := teq s [33]
  have c4 := teq s [59]
  have c5 := teq s [91, 93]
  by_cases e0 : bl s = []
  · rw [decide_eq_true e0] at c0
    have hm : Hid (plainM (bl s) = false) := by show _ = _; unfold plainM; rw [if_pos (.inl e0)]
    clear e0 c1 c3 c4 c5
    go_enter Tryd.func41, Tryd.ntmps41
    go_wp2
    go_ret
    exact ⟨by show Ending.returned (Value.bool _) = _; rw [hm.out], (Below.refl _ w).alloc (Nat.le_refl _) _⟩
  rw [decide_eq_false e0] at c0
  by_cases e1 : bl s = [46]
  · rw [decide_eq_true e1] at c1
    have hm : Hid (plainM (bl s) = false) := by show _ = _; unfold plainM; rw [if_pos (.inr (.inl e1))]
    clear e0 e1 c3 c4 c5
    go_enter Tryd.func41, Tryd.ntmps41
    go_wp2
    go_ret
    exact ⟨by show Ending.returned (Value.bool _) = _; rw [hm.out], (Below.refl _ w).alloc (Nat.le_refl _) _⟩
  rw [decide_eq_false e1] at c1
  by_cases e2 : ([47, 42] : List UInt8).isPrefixOf (bl s) = true
  · have hm : Hid (plainM (bl s) = false) := by show _ = _; unfold plainM; rw [if_pos (.inr (.inr e2))]
    have hpf : Lib.hasPrefix s.data.toList [47, 42] = true := e2
    clear e0 e1 c3 c4 c5
    go_enter Tryd.func41, Tryd.ntmps41
    go_wp2_with (go_at_call 70; refine (Tryd.strings_HasPrefix s ⟨#[47, 42]⟩ _).mono ?_; rintro e w1 ⟨rfl, rfl⟩)
    go_ret
    exact ⟨by show Ending.returned (Value.bool _) = _; rw [hm.out], (Below.refl _ w).alloc (Nat.le_refl _) _⟩
  have hpf : Lib.hasPrefix s.data.toList [47, 42] = false := Bool.eq_false_iff.2 e2
  by_cases e3 : bl s = [33]
  · rw [decide_eq_true e3] at c3
    have hm : Hid (plainM (bl s) = true) := by show _ = _; unfold plainM; rw [if_neg (by simp [e0, e1, e2]), if_pos (.inl e3)]
    clear e0 e1 e2 e3 c4 c5
    go_enter Tryd.func41, Tryd.ntmps41
    go_wp2_with (go_at_call 70; refine (Tryd.strings_HasPrefix s ⟨#[47, 42]⟩ _).mono ?_; rintro e w1 ⟨rfl, rfl⟩)
    go_ret
    exact ⟨by show Ending.returned (Value.bool _) = _; rw [hm.out], (Below.refl _ w).alloc (Nat.le_refl _) _⟩
  rw [decide_eq_false e3] at c3
  by_cases e4 : bl s = [59]
  · rw [decide_eq_true e4] at c4
    have hm : Hid (plainM (bl s) = true) := by show _ = _; unfold plainM; rw [if_neg (by simp [e0, e1, e2]), if_pos (.inr (.inl e4))]
    clear e0 e1 e2 e3 e4 c5
    go_enter Tryd.func41, Tryd.ntmps41
    go_wp2_with (go_at_call 70; refine (Tryd.strings_HasPrefix s ⟨#[47, 42]⟩ _).mono ?_; rintro e w1 ⟨rfl, rfl⟩)
    go_ret
    exact ⟨by show Ending.returned (Value.bool _) = _; rw [hm.out], (Below.refl _ w).alloc (Nat.le_refl _) _⟩
  rw [decide_eq_false e4] at c4
  by_cases e5 : bl s = [91, 93]
  · rw [decide_eq_true e5] at c5
    have hm : Hid (plainM (bl s) = true) := by show _ = _; unfold plainM; rw [if_neg (by simp [e0, e1, e2]), if_pos (.inr (.inr e5))]
    clear e0 e1 e2 e3 e4 e5
    go_enter Tryd.func41, Tryd.ntmps41
    go_wp2_with (go_at_call 70; refine (Tryd.strings_HasPrefix s ⟨#[47, 42]⟩ _).mono ?_; rintro e w1 ⟨rfl, rfl⟩)
    go_ret
    exact ⟨by show Ending.returned (Value.bool _) = _; rw [hm.out], (Below.refl _ w).alloc (Nat.le_refl _) _⟩
  rw [decide_eq_false e5] at c5
  obtain ⟨c, r, hcr⟩ : ∃ c r, bl s = c :: r := by
    cases h : bl s with
    | nil => exact absurd h e0
    | cons c r => exact ⟨c, r, rfl⟩
  have hsz1 : 1 ≤ s.size := by rw [← bl_length, hcr]; simp
  have hm : Hid (plainM (bl s) = if inSet lowers c = true then (bl s).all (inSet letters) else (bl s).all (inSet symbols)) := by
    show _ = _
    unfold plainM
    rw [if_neg (by simp [e0, e1, e2]), if_neg (by simp [e3, e4, e5]), hcr]
    rfl
  have HC : Hid (bl s = c :: r) := hcr
  clear e0 e1 e2 e3 e4 e5 hcr
  have hcell : (w.alloc (Obj.cells #[Value.string s] 9)).cell? ⟨w.heap.size, 0, none⟩ = some (.string s) := by simp [go_sem]
  have hbel : Below w.heap.size w (w.alloc (Obj.cells #[Value.string s] 9)) := (Below.refl _ w).alloc (Nat.le_refl _) _
  cases hl : inSet lowers c with
  | true =>
    rw [hl] at hm
    go_enter Tryd.func41, Tryd.ntmps41
    go_wp2_with (first | (go_at_call 70; refine (Tryd.strings_HasPrefix s ⟨#[47, 42]⟩ _).mono ?_; rintro e w1 ⟨rfl, rfl⟩) | (go_at_call 71; refine (contains_lowers s c r _ HC.out).mono ?_; rintro e w1 ⟨rfl, rfl⟩) | (go_at_call 67; refine (write_plain1.walk s letters w.heap.size _ hcell ascii_letters hs (hL.below hbel)).mono ?_; rintro e w1 ⟨rfl, hb1⟩))
    go_ret
    exact ⟨by show Ending.returned (Value.bool _) = _; rw [hm.out, all_data]; rfl, hbel.trans (hb1.mono hbel.size)⟩
  | false =>
    rw [hl] at hm
    go_enter Tryd.func41, Tryd.ntmps41
    go_wp2_with (first | (go_at_call 70; refine (Tryd.strings_HasPrefix s ⟨#[47, 42]⟩ _).mono ?_; rintro e w1 ⟨rfl, rfl⟩) | (go_at_call 71; refine (contains_lowers s c r _ HC.out).mono ?_; rintro e w1 ⟨rfl, rfl⟩) | (go_at_call 67; refine (write_plain1.walk s symbols w.heap.size _ hcell ascii_symbols hs (hL.below hbel)).mono ?_; rintro e w1 ⟨rfl, hb1⟩))
    go_ret
    exact ⟨by show Ending.returned (Value.bool _) = _; rw [hm.out, all_data]; rfl, hbel.trans (hb1.mono hbel.size)⟩
end Go.Proofs.YthnjdfblappkfaaDoor
end
