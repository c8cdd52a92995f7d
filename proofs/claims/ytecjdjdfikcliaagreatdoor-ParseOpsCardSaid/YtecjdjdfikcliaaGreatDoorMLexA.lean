/- Several small texts of this claim in one. -/
import Derived.Test.YtecjdjdfikcliaaGreatDoorProg
import Derived.Test.YtecjdjdfikcliaaGreatDoorBase
import Derived.Shelf.Strings.BuilderK
import Derived.Test.YtecjdjdfikcliaaGreatDoorLaid
import Derived.Test.YtecjdjdfikcliaaGreatDoorShelf
import Derived.Test.YtecjdjdfikcliaaGreatDoorWWords
import Derived.Test.YtecjdjdfikcliaaGreatDoorMLx
section
/-
  strings.Builder's copyCheck, WriteByte and WriteString over a builder that the call itself has made: after the shelf's worked proofs, at this program's own text.
-/
namespace Go.Proofs.YtecjdjdfikcliaaGreatDoor
open Go.RowKit

theorem u8info : (Tryz.prog.info? 5).map (fun i => (i.zero, i.size, i.bytes)) = some (some (.int .u8 0), 1, 1) := by kernel_rfl
theorem builderInfo : (Tryz.prog.info? 115).map (fun i => i.size) = some 2 := by kernel_rfl
theorem builderLies : liesAt Tryz.prog Tryz.prog.depth 115 (2 / Tryz.prog.cellsOf 115) 0 115 1 = true := by kernel_rfl

set_option maxHeartbeats 1000000 in
set_option maxRecDepth 100000 in
theorem copyCheck_used (b : Nat) (w : World) (h0 : w.cell? ⟨b, 0, none⟩ = some (.pointer (some ⟨b, 0, none⟩))) :
    Calls Tryz.prog 82 #[.pointer (some ⟨b, 0, none⟩)] w fun e w' => e = .returned (.tuple #[]) ∧ w' = w := by
  obtain ⟨j, hj, _⟩ := Option.map_eq_some_iff.1 builderInfo
  go_enter Tryz.func82, Tryz.ntmps82
  go_wp2
  rw [Lib.run_neq_ptr_same w _ Tryz.underlying112 hj]
  go_wp2
  go_end0
  exact ⟨rfl, rfl⟩

set_option maxHeartbeats 1000000 in
set_option maxRecDepth 100000 in
theorem copyCheck_fresh (b : Nat) (w : World) (h0 : w.cell? ⟨b, 0, none⟩ = some (.pointer none)) (hsh : w.shape? b = some (115, 2)) (hfz : w.frozen? ⟨b, 0, none⟩ = false) :
    Calls Tryz.prog 82 #[.pointer (some ⟨b, 0, none⟩)] w fun e w' => e = .returned (.tuple #[]) ∧ w' = w.setCell ⟨b, 0, none⟩ (.pointer (some ⟨b, 0, none⟩)) := by
  obtain ⟨j, hj, hjs⟩ := Option.map_eq_some_iff.1 builderInfo
  go_enter Tryz.func82, Tryz.ntmps82
  go_wp2
  rw [Lib.run_to_unsafe w ⟨b, 0, none⟩ Tryz.underlying112 Tryz.underlying146 hj (by rw [hjs]; decide) hsh (Nat.zero_lt_succ 1)]
  simp only [Result.andThen]
  rw [Oper.upon_value]
  go_wp2
  rw [run_callFunc_extern Tryz.func90 (by kernel_rfl) (by kernel_rfl) (by kernel_rfl) (e := Extern.AbiNoEscape.same) (by kernel_rfl)]
  rw [Lib.run_noEscape]
  simp only [Result.andThen]
  rw [Oper.upon_value]
  go_wp2
  rw [Lib.run_from_unsafe w ⟨b, 0, none⟩ Tryz.underlying146 Tryz.underlying112 hj hsh builderLies]
  simp only [Result.andThen]
  rw [Oper.upon_value]
  go_wp2
  go_end0
  exact ⟨rfl, rfl⟩

theorem copyCheck_k (B b : Nat) (bs : List Value) (w : World) (h : Lib.IsBuilderF 115 5 B b bs w) :
    Calls Tryz.prog 82 #[.pointer (some ⟨b, 0, none⟩)] w fun e w' => e = .returned (.tuple #[]) ∧ (Lib.BuilderAtF 115 5 B b (.pointer (some ⟨b, 0, none⟩)) bs w' ∧ Below B w w' ∧ Lib.OthersKept 5 (some b) w w') := by
  rcases h with h | h
  · refine (copyCheck_fresh b w h.cell0 h.shape h.frozen0).mono ?_
    rintro e w' ⟨rfl, rfl⟩
    exact ⟨rfl, h.used _, (Below.refl B w).setCell (p := ⟨b, 0, none⟩) h.1 _, (Lib.OthersKept.refl _ _ w).setCell ⟨b, 0, none⟩ rfl _⟩
  · refine (copyCheck_used b w h.cell0).mono ?_
    rintro e w' ⟨rfl, rfl⟩
    exact ⟨rfl, h, Below.refl B _, Lib.OthersKept.refl _ _ _⟩

set_option maxHeartbeats 2000000 in
set_option maxRecDepth 100000 in
theorem WriteByte_k (B b : Nat) (bs : List Value) (c : Int) (w : World) (h : Lib.IsBuilderF 115 5 B b bs w) (hlen : bs.length + 1 ≤ 140737488355328) (hBw : B ≤ w.heap.size) :
    Calls Tryz.prog 69 #[.pointer (some ⟨b, 0, none⟩), .int .u8 c] w fun e w' => e = .returned .nilIface ∧ (Lib.BuilderAtF 115 5 B b (.pointer (some ⟨b, 0, none⟩)) (bs ++ [.int .u8 c]) w' ∧ Below B w w' ∧ Lib.OthersKept 5 (some b) w w') := by
  obtain ⟨i0, hi, hz0, hz1, hz2⟩ := info_parts u8info
  go_enter Tryz.func69, Tryz.ntmps69
  go_wp2_with (go_at_call 82; refine (copyCheck_k B b bs _ h).mono ?_)
  rintro e w1 ⟨rfl, h1, hb1, hk1⟩
  obtain ⟨hB, v, hbk, hown, hne⟩ := h1
  have c0 : w1.cell? ⟨b, 0, none⟩ = some (.pointer (some ⟨b, 0, none⟩)) := by rw [Lib.cell_of_heap hbk]; rfl
  have c1 : w1.cell? ⟨b, 1, none⟩ = some v := by rw [Lib.cell_of_heap hbk]; rfl
  go_wp2_with (at_builtin; refine wpList_append_ownF _ rfl _ _ 113 rfl B 5 i0 (.int .u8 0) 1 1 Tryz.underlying113 hi hz0 hz1 hz2 rfl (by decide) _ _ _ rfl (hown.alloc _) ⟨w1.heap.size, 0, none⟩ 1 1 [.int .u8 c] rfl rfl ?c1 ?c2 ?c3 ?c4 ?c5 ?_)
  case c1 =>
    intro j u hj
    match j, hj with
    | 0, hj => simp at hj; subst hj; simp [Addr.add]
  case c2 => intro u hu; simp at hu; subst hu; rfl
  case c3 => unfold maxLen; omega
  case c4 => omega
  case c5 => have := hb1.size; simp; omega
  intro v' w2 hown' hgrow _
  have hlt : b < w1.heap.size := by
    rcases Nat.lt_or_ge b w1.heap.size with h' | h'
    · exact h'
    · simp [Array.getElem?_eq_none h'] at hbk
  have hb2 : w2.heap[b]? = some (.cells #[.pointer (some ⟨b, 0, none⟩), v] 115 (0, 0)) := by
    rw [hgrow.block b (by simp; omega) (fun e => hne e.symm), Lib.alloc_old w1 _ b hlt]
    exact hbk
  have d0 : w2.cell? ⟨b, 0, none⟩ = some (.pointer (some ⟨b, 0, none⟩)) := by rw [Lib.cell_of_heap hb2]; rfl
  have d1 : w2.cell? ⟨b, 1, none⟩ = some v := by rw [Lib.cell_of_heap hb2]; rfl
  have f1 : w2.frozen? ⟨b, 1, none⟩ = false := Lib.frozen_of_heap hb2 1
  obtain ⟨g, cap, rfl⟩ : ∃ g cap, v' = .slice (some ⟨g, 0, none⟩) (bs.length + 1) cap := by
    rcases hown'.2 with ⟨_, h0⟩ | ⟨g, cap, cur, fz, hv, _⟩
    · omega
    · exact ⟨g, cap, hv⟩
  go_wp2
  go_ret
  refine ⟨rfl, ?_, ?_, ((hk1.alloc _).grown hgrow (Lib.ownsRowF_kind (hown.alloc _))).setCell ⟨b, 1, none⟩ rfl _⟩
  · exact Lib.BuilderAtF.put (T := 115) (e := 5) hB hb2 (bs' := bs ++ [.int .u8 c]) (by simpa using hown') (by decide)
  · exact ((hb1.alloc (by have := hb1.size; omega) _).grown hgrow (by have := hb1.size; simp; omega) (fun k hk => (hown.lt k hk).1)).setCell (p := ⟨b, 1, none⟩) hB _


end Go.Proofs.YtecjdjdfikcliaaGreatDoor
end
section
/-
  Calls of Go's library in the form that the printed functions take.
-/
namespace Go.Proofs.YtecjdjdfikcliaaGreatDoor
open Go.RowKit Go.Proofs.YtecjdjdfikcliaaGreatDoorW.PrintWords

def strings_IndexByte.f (a0 : ByteArray) (a1 : Int) : Option Int := some (Lib.indexByte a0.data.toList a1.toNat.toUInt8)
theorem strings_IndexByte.calls (a0 : ByteArray) (a1 r : Int) (w : World) (h : strings_IndexByte.f a0 a1 = some r) :
    Calls Tryz.prog 33 #[.string a0, .int .u8 a1] w fun e w' => e = .returned (.int .i64 r) ∧ Drawn0 w w' := by
  obtain rfl := Option.some.inj h
  exact (Tryz.strings_IndexByte a0 a1 w).mono fun e w' ⟨he, hw⟩ => ⟨he, hw ▸ Drawn0.refl w⟩

def strings_HasPrefix.f (a0 a1 : ByteArray) : Option Bool := some (Lib.hasPrefix a0.data.toList a1.data.toList)
theorem strings_HasPrefix.calls (a0 a1 : ByteArray) (r : Bool) (w : World) (h : strings_HasPrefix.f a0 a1 = some r) :
    Calls Tryz.prog 44 #[.string a0, .string a1] w fun e w' => e = .returned (.bool r) ∧ Drawn0 w w' := by
  obtain rfl := Option.some.inj h
  exact (Tryz.strings_HasPrefix a0 a1 w).mono fun e w' ⟨he, hw⟩ => ⟨he, hw ▸ Drawn0.refl w⟩

def strings_Index.f (a0 a1 : ByteArray) : Option Int := if a0.size < 4294967281 then some (Lib.index a0.data.toList a1.data.toList) else none
theorem strings_Index.calls (a0 a1 : ByteArray) (r : Int) (w : World) (hL : LaidE w) (h : strings_Index.f a0 a1 = some r) :
    Calls Tryz.prog 45 #[.string a0, .string a1] w fun e w' => e = .returned (.int .i64 r) ∧ Drawn0 w w' := by
  unfold strings_Index.f at h
  split at h
  · obtain rfl := Option.some.inj h
    obtain ⟨m, hm⟩ := hL.num
    exact (Tryz.strings_Index a0 a1 m w (by assumption) hm).mono fun e w' ⟨he, hw⟩ => ⟨he, hw ▸ Drawn0.refl w⟩
  · cases h
end Go.Proofs.YtecjdjdfikcliaaGreatDoor
end
section
/-
  lex.cutLeft: the text behind the longest head all of whose bytes are in a set of ASCII bytes.
-/
namespace Go.Proofs.YtecjdjdfikcliaaGreatDoor
open Go.RowKit

def ascii (a : ByteArray) : Bool := a.data.toList.all (fun b => b.toNat < 128)
def inSet (set : ByteArray) (b : UInt8) : Bool := set.data.toList.contains b
def headLen (set s : ByteArray) : Nat := (s.data.toList.takeWhile (inSet set)).length

def hasRune (set : ByteArray) (c j : Nat) : Bool := (set.data.toList.take j).any (fun b => b.toNat == c)

theorem hasRune_zero (set : ByteArray) (c : Nat) : hasRune set c 0 = false := by simp [hasRune]
theorem hasRune_succ (set : ByteArray) (c j : Nat) (h : j < set.size) : hasRune set c (j + 1) = (hasRune set c j || ((set[j]'h).toNat == c)) := by
  unfold hasRune
  rw [List.take_succ_eq_append_getElem (by simpa using h), List.any_append]
  simp
  rfl
theorem hasRune_all (set : ByteArray) (c : Nat) : hasRune set c set.size = set.data.toList.any (fun b => b.toNat == c) := by
  unfold hasRune
  rw [List.take_of_length_le (Nat.le_of_eq (bl_length set))]
theorem inSet_lo (set : ByteArray) (b : UInt8) : inSet set b = hasRune set b.toNat set.size := by
  rw [hasRune_all]
  unfold inSet
  rw [Bool.eq_iff_iff]
  simp only [List.contains_iff_mem, List.any_eq_true, beq_iff_eq]
  constructor
  · intro h; exact ⟨b, h, rfl⟩
  · rintro ⟨x, hx, he⟩
    have : x = b := UInt8.toNat_inj.mp he
    exact this ▸ hx
theorem hasRune_hi (set : ByteArray) (c : Nat) (ha : ascii set = true) (hc : 128 ≤ c) : hasRune set c set.size = false := by
  rw [hasRune_all, List.any_eq_false]
  intro x hx
  unfold ascii at ha
  rw [List.all_eq_true] at ha
  have := ha x hx
  simp at this ⊢
  omega
theorem inSet_hi (set : ByteArray) (b : UInt8) (ha : ascii set = true) (hb : 128 ≤ b.toNat) : inSet set b = false := by
  rw [inSet_lo]; exact hasRune_hi set _ ha hb
/-- One rune of the text: it is in the set just where its first byte is; then it is one byte long. -/
theorem rune_in (set s : ByteArray) (pos : Nat) (h : pos < s.size) (ha : ascii set = true) :
    hasRune set (Utf8.decode s pos).1 set.size = inSet set (s[pos]'h) ∧ (inSet set (s[pos]'h) = true → (Utf8.decode s pos).2 = 1) := by
  by_cases hb : (s[pos]'h).toNat < 128
  · rw [decode_ascii s pos h hb]
    exact ⟨(inSet_lo _ _).symm, fun _ => rfl⟩
  · have hd := decode_high s pos h (by omega)
    rw [hasRune_hi set _ ha hd.1, inSet_hi set _ ha (by omega)]
    exact ⟨rfl, fun h => by cases h⟩
theorem ascii_at (set : ByteArray) (ha : ascii set = true) (j : Nat) (h : j < set.size) : (set[j]'h).toNat < 128 := by
  unfold ascii at ha
  rw [List.all_eq_true] at ha
  have := ha (set.data.toList[j]'h) (List.getElem_mem _)
  exact of_decide_eq_true this
/-- All of the first k bytes are in the set, and the next one is not: the head is k bytes long. -/
def allIn (set s : ByteArray) (k : Nat) : Prop := ∀ j (h : j < s.size), j < k → inSet set s[j] = true
theorem takeWhile_len {α : Type} (p : α → Bool) : ∀ (l : List α) (k : Nat) (h : k < l.length), (∀ j (hj : j < l.length), j < k → p l[j] = true) → p l[k] = false → (l.takeWhile p).length = k
  | [], k, h, _, _ => by simp at h
  | x :: l, 0, _, _, hn => by simp at hn; simp [hn]
  | x :: l, k + 1, h, ha, hn => by
    have h0 := ha 0 (by simp) (by omega)
    simp at h0
    rw [List.takeWhile_cons, h0]
    simp only [List.length_cons, if_true]
    rw [takeWhile_len p l k (by simpa using h) (fun j hj hk => by have := ha (j + 1) (by simpa using hj) (by omega); simpa using this) (by simpa using hn)]
theorem takeWhile_all {α : Type} (p : α → Bool) : ∀ (l : List α), (∀ j (hj : j < l.length), p l[j] = true) → (l.takeWhile p) = l
  | [], _ => rfl
  | x :: l, ha => by
    have h0 := ha 0 (by simp)
    simp at h0
    rw [List.takeWhile_cons, h0]
    simp only [if_true]
    rw [takeWhile_all p l (fun j hj => by have := ha (j + 1) (by simpa using hj); simpa using this)]
theorem headLen_at (set s : ByteArray) (k : Nat) (h : k < s.size) (ha : allIn set s k) (hn : inSet set s[k] = false) : headLen set s = k :=
  takeWhile_len _ _ k h (fun j hj hk => ha j hj hk) hn
theorem headLen_all (set s : ByteArray) (ha : allIn set s s.size) : headLen set s = s.size := by
  unfold headLen
  rw [takeWhile_all _ _ (fun j hj => ha j hj hj)]
  rfl
theorem allIn_zero (set s : ByteArray) : allIn set s 0 := fun j _ h => absurd h (by omega)
theorem allIn_succ {set s : ByteArray} {k : Nat} (ha : allIn set s k) (h : k < s.size) (hi : inSet set s[k] = true) : allIn set s (k + 1) := by
  intro j hj hk
  rcases Nat.lt_or_ge j k with h1 | h1
  · exact ha j hj h1
  · obtain rfl : j = k := by omega
    exact hi
theorem extract_end (s : ByteArray) : s.extract s.size s.size = ⟨#[]⟩ := by
  apply bl_ext
  rw [bl_from]
  simp [bl]

theorem hasRune_yes {set : ByteArray} {c j : Nat} (hj : j < set.size) (h : hasRune set c j = true) : Value.bool true = Value.bool (hasRune set c (j + 1)) := by
  rw [hasRune_succ _ _ _ hj, h]; rfl
theorem hasRune_no {set : ByteArray} {c j : Nat} (hj : j < set.size) (h : ¬ hasRune set c j = true) : Value.bool ((c : Int) == ((set[j]'hj).toNat : Int)) = Value.bool (hasRune set c (j + 1)) := by
  rw [hasRune_succ _ _ _ hj]
  have h' : hasRune set c j = false := by simpa using h
  rw [h', Bool.false_or]
  congr 1
  rw [Bool.eq_iff_iff]
  simp only [beq_iff_eq]
  omega

def lex_cutLeft.f (a0 a1 : ByteArray) : Option ByteArray := if ascii a1 = true then some (a0.extract (headLen a1 a0) a0.size) else none

set_option maxHeartbeats 1000000 in
set_option maxRecDepth 100000 in
theorem lex_cutLeft.walk (s set : ByteArray) (w : World) (ha : ascii set = true) :
    Calls Tryz.prog 63 #[.string s, .string set] w fun e w' => e = .returned (.string (s.extract (headLen set s) s.size)) ∧ Below w.heap.size w w' := by
  have HA := Lib.hid ha
  clear ha
  go_enter Tryz.func63, Tryz.ntmps63
  go_wp2
  go_loopw [7] (fun _ wr => ∃ (pos : Nat), pos ≤ s.size ∧ wr.heap[w.heap.size]? = some (.stringIter s pos) ∧ allIn set s pos ∧ Below w.heap.size w wr) (fun _ wr => s.size - wr.iterPos w.heap.size)
  case atStart => exact ⟨0, Nat.zero_le _, World.iter_heap _ _ _, allIn_zero _ _, (Below.refl _ _).alloc (Nat.le_refl _) _⟩
  case round =>
    obtain ⟨pos, hp, hit, hall, hb⟩ := hrel
    by_cases hlt : pos < s.size
    · have hnx : ∀ ty, (Instr.next (.pointer (some ⟨w.heap.size, 0, none⟩)) true ty).run Tryz.prog wr = _ := fun ty => Lib.run_next_any_at wr w.heap.size s pos ty hit hlt
      go_wp2
      have b1 := Lib.below_iterAt hb (k := w.heap.size) (Nat.le_refl _) s (pos + (Utf8.decode s pos).2)
      have h1 := Lib.iterAt_heap wr w.heap.size s pos (pos + (Utf8.decode s pos).2) hit
      have hsz : w.heap.size < (wr.iterAt w.heap.size s (pos + (Utf8.decode s pos).2)).heap.size := (Array.getElem?_eq_some_iff.1 h1).1
      generalize wr.iterAt w.heap.size s (pos + (Utf8.decode s pos).2) = W1 at b1 h1 hsz ⊢
      have hr := rune_in set s pos hlt HA.out
      have HR := Lib.hid hr
      clear hr
      go_loopw [7, 9] (fun v7 _ w' => ∃ (j : Nat), j ≤ set.size ∧ v7 = .bool (hasRune set (Utf8.decode s pos).1 j) ∧ w' = W1.iter set j) (fun _ _ w' => set.size - w'.iterPos W1.heap.size)
      case atStart => exact ⟨0, Nat.zero_le _, by rw [hasRune_zero], rfl⟩
      case round =>
        obtain ⟨j, hj, rfl, rfl⟩ := hrel
        by_cases hlj : j < set.size
        · have hnx2 : ∀ ty, (Instr.next (.pointer (some ⟨W1.heap.size, 0, none⟩)) true ty).run Tryz.prog (W1.iter set j) = _ := fun ty => run_next_ascii W1 set j ty hlj (ascii_at set HA.out j hlj)
          go_wp2
          all_goals
            go_roundw
            case rel => exact ⟨j + 1, by omega, by first | exact hasRune_yes hlj (by assumption) | exact hasRune_no hlj (by assumption), rfl⟩
            case measure => simp; omega
        · obtain rfl : j = set.size := by omega
          have hnx2 : ∀ ty, (Instr.next (.pointer (some ⟨W1.heap.size, 0, none⟩)) true ty).run Tryz.prog (W1.iter set set.size) = _ := fun ty => run_next_end W1 set set.size ty (by omega)
          have e1 := HR.out.1
          have e2 := HR.out.2
          cases hi : inSet set s[pos] with
          | true =>
            rw [hi] at e1
            have e3 := Lib.hid (e2 hi)
            have hall' := allIn_succ hall hlt hi
            clear e2 hi hall HR
            go_wp2
            go_roundw
            case rel => exact ⟨pos + 1, by omega, by rw [← e3.out]; exact (Below.heap_alloc W1 _ _ hsz).trans h1, hall', b1.alloc (Nat.le_of_lt hsz) _⟩
            case measure =>
              have q := iterPos_of (w := W1.iter set set.size) ((Below.heap_alloc W1 (.stringIter set set.size) _ hsz).trans h1)
              rw [q, iterPos_of hit, e3.out]
              omega
          | false =>
            rw [hi] at e1
            have hk := Lib.hid (headLen_at set s pos hlt hall hi)
            clear e2 hi hall HR
            go_wp2
            go_ret
            refine ⟨?_, b1.alloc (Nat.le_of_lt hsz) _⟩
            rw [hk.out]
            rfl
    · obtain rfl : pos = s.size := by omega
      have hnx : ∀ ty, (Instr.next (.pointer (some ⟨w.heap.size, 0, none⟩)) true ty).run Tryz.prog wr = _ := fun ty => Lib.run_next_end_at wr w.heap.size s s.size ty hit hlt
      go_wp2
      go_ret
      refine ⟨?_, hb⟩
      rw [headLen_all set s hall, extract_end]
      rfl
theorem lex_cutLeft.calls (a0 a1 r : ByteArray) (w : World) (h : lex_cutLeft.f a0 a1 = some r) :
    Calls Tryz.prog 63 #[.string a0, .string a1] w fun e w' => e = .returned (.string r) ∧ Below w.heap.size w w' := by
  unfold lex_cutLeft.f at h
  split at h
  · obtain rfl := Option.some.inj h
    exact lex_cutLeft.walk a0 a1 w (by assumption)
  · cases h
end Go.Proofs.YtecjdjdfikcliaaGreatDoor
end
section
/-
  lex.quoted: what stands between quotes.
-/
namespace Go.Proofs.YtecjdjdfikcliaaGreatDoor
open Go.RowKit Go.Proofs.YtecjdjdfikcliaaGreatDoorW.PrintWords

def lex_quoted.f (a0 : ByteArray) : Option (ByteArray × Int × Int) :=
  if a0.size ≤ 140737488355328 then
    match Lx.quotedM [] ((bl a0).drop 1) with
    | some (t, rest) => some (⟨t.toArray⟩, (a0.size - rest.length : Nat), 0)
    | none => some (⟨#[]⟩, 0, 10)
  else none

theorem drop_at (s : ByteArray) (i : Nat) (h : i < s.size) : (bl s).drop i = s[i] :: (bl s).drop (i + 1) := List.drop_eq_getElem_cons (by simpa [bl] using h)
theorem drop_end (s : ByteArray) (i : Nat) (h : s.size ≤ i) : (bl s).drop i = [] := List.drop_eq_nil_of_le h

theorem quoted_qq {q : Option (List UInt8 × List UInt8)} {out A B C : List UInt8} {c c2 : UInt8} (h : Lx.quotedM out A = q) (hd : A = c :: B) (hd2 : B = c2 :: C) (e : c = 39) (e2 : c2 = 39) : Lx.quotedM (out ++ [39]) C = q := by
  subst hd hd2 e e2
  rw [← h]
  simp [Lx.quotedM]

theorem quoted_end {q : Option (List UInt8 × List UInt8)} {out A B : List UInt8} {c : UInt8} (h : Lx.quotedM out A = q) (hd : A = c :: B) (e : c = 39) (hB : ∀ x C, B = x :: C → x ≠ 39) : q = some (out, B) := by
  subst hd e
  rw [← h]
  cases B with
  | nil => simp [Lx.quotedM]
  | cons x C => simp [Lx.quotedM, hB x C rfl]
theorem quoted_esc {q : Option (List UInt8 × List UInt8)} {out A B C : List UInt8} {c c2 : UInt8} (h : Lx.quotedM out A = q) (hd : A = c :: B) (hd2 : B = c2 :: C) (e : c = 92) :
    (if c2 = 92 then Lx.quotedM (out ++ [92]) C else if c2 = 39 then Lx.quotedM (out ++ [39]) C else if c2 = 110 then Lx.quotedM (out ++ [10]) C else if c2 = 116 then Lx.quotedM (out ++ [9]) C else none) = q := by
  subst hd hd2 e
  rw [← h]
  simp [Lx.quotedM]
theorem quoted_esc_nil {q : Option (List UInt8 × List UInt8)} {out A : List UInt8} {c : UInt8} (h : Lx.quotedM out A = q) (hd : A = c :: []) (e : c = 92) : q = none := by
  subst hd e
  rw [← h]
  simp [Lx.quotedM]
theorem quoted_else {q : Option (List UInt8 × List UInt8)} {out A B : List UInt8} {c : UInt8} {n : Nat} (h : Lx.quotedM out A = q) (hd : A = c :: B) (hn : c.toNat = n) (h1 : n ≠ 39) (h2 : n ≠ 92) :
    (if n < 32 ∨ 126 < n then none else Lx.quotedM (out ++ [c]) B) = q := by
  subst hd hn
  rw [← h]
  have e1 : c ≠ 39 := fun e => h1 (by rw [e]; rfl)
  have e2 : c ≠ 92 := fun e => h2 (by rw [e]; rfl)
  have e3 : (c < 32 ∨ 126 < c) ↔ (c.toNat < 32 ∨ 126 < c.toNat) := by
    rw [UInt8.lt_iff_toNat_lt, UInt8.lt_iff_toNat_lt]; rfl
  have e4 := Lx.quotedM.eq_def out (c :: B)
  simp only [if_neg e1, if_neg e2, e3] at e4
  exact e4.symm

def QPost (q : Option (List UInt8 × List UInt8)) (n : Nat) (w : World) (e : Ending) (w' : World) : Prop :=
  (match q with
    | some (t, rest) => e = .returned (.tuple #[.string ⟨t.toArray⟩, .int .i64 (n - rest.length : Nat), .int .i64 0])
    | none => e = .returned (.tuple #[.string ⟨#[]⟩, .int .i64 0, .int .i64 10])) ∧ Below w.heap.size w w'

theorem wb (w0 W : World) (out : List UInt8) (c : UInt8) (n : Int) (hn : n = c.toNat) (hB : Hid (Lib.IsBuilderF 115 5 w0.heap.size w0.heap.size (Lib.byteCells out) W)) (hb : Below w0.heap.size w0 W) (hl : out.length + 1 ≤ 140737488355328) :
    Calls Tryz.prog 69 #[.pointer (some ⟨w0.heap.size, 0, none⟩), .int .u8 n] W fun e w' => e = .returned .nilIface ∧ Hid (Lib.IsBuilderF 115 5 w0.heap.size w0.heap.size (Lib.byteCells (out ++ [c])) w') ∧ Below w0.heap.size w0 w' := by
  refine (WriteByte_k w0.heap.size w0.heap.size (Lib.byteCells out) n W hB.out (by simpa [Lib.byteCells] using hl) hb.size).mono ?_
  rintro e w' ⟨rfl, h, b, _⟩
  refine ⟨rfl, ?_, hb.trans b⟩
  have e : Lib.byteCells (out ++ [c]) = Lib.byteCells out ++ [.int .u8 n] := by simp [Lib.byteCells, hn]
  rw [e]
  exact .inr h
theorem ib_esc (c : UInt8) : Lib.indexByte [92, 39, 110, 116] c = if c = 92 then 0 else if c = 39 then 1 else if c = 110 then 2 else if c = 116 then 3 else -1 := by
  by_cases h1 : c = 92
  · subst h1; decide
  by_cases h2 : c = 39
  · subst h2; decide
  by_cases h3 : c = 110
  · subst h3; decide
  by_cases h4 : c = 116
  · subst h4; decide
  rw [if_neg h1, if_neg h2, if_neg h3, if_neg h4]
  simp only [Lib.indexByte, beq_eq_false_iff_ne.2 (Ne.symm h1), beq_eq_false_iff_ne.2 (Ne.symm h2), beq_eq_false_iff_ne.2 (Ne.symm h3), beq_eq_false_iff_ne.2 (Ne.symm h4)]
  rfl

theorem ib_call (w : World) (c : UInt8) (n : Int) (k : Int) (hn : n = c.toNat) (hk : Lib.indexByte [92, 39, 110, 116] c = k) :
    Calls Tryz.prog 33 #[.string ⟨#[92, 39, 110, 116]⟩, .int .u8 n] w fun e w' => e = .returned (.int .i64 k) ∧ w = w' := by
  refine (Tryz.strings_IndexByte ⟨#[92, 39, 110, 116]⟩ n w).mono ?_
  rintro e w' ⟨rfl, rfl⟩
  subst hn
  refine ⟨?_, rfl⟩
  rw [← hk]
  have e : (c.toNat : Int).toNat.toUInt8 = c := by simp
  rw [e]

set_option maxHeartbeats 4000000 in
set_option maxRecDepth 100000 in
theorem lex_quoted.walk (s : ByteArray) (w : World) (hs : s.size ≤ 140737488355328) :
    Calls Tryz.prog 51 #[.string s] w (QPost (Lx.quotedM [] ((bl s).drop 1)) s.size w) := by
  obtain ⟨q, hq⟩ : ∃ q, Lx.quotedM [] ((bl s).drop 1) = q := ⟨_, rfl⟩
  rw [hq]
  have HQ := Lib.hid hq
  clear hq
  have hfr := Lib.hid (Lib.IsBuilderF.of (Lib.fresh_isBuilder 115 5 w))
  go_enter Tryz.func51, Tryz.ntmps51
  go_wp2
  go_loopw [6] (fun v6 wr => ∃ (i : Nat) (out : List UInt8), v6 = .int .i64 i ∧ 1 ≤ i ∧ (i ≤ s.size ∨ i = 1) ∧ out.length ≤ i ∧ Hid (Lx.quotedM out ((bl s).drop i) = q) ∧ Hid (Lib.IsBuilderF 115 5 w.heap.size w.heap.size (Lib.byteCells out) wr) ∧ Below w.heap.size w wr) (fun v6 _ => s.size + 1 - (intOf v6).toNat)
  case atStart => exact ⟨1, [], rfl, by omega, .inr rfl, by simp, HQ, hfr, (Below.refl _ _).alloc (Nat.le_refl _) _⟩
  case round =>
    obtain ⟨i, out, rfl, hi1, hi2, ho, hR, hB, hb⟩ := hrel
    by_cases hlt : i < s.size
    · have hd := drop_at s i hlt
      obtain ⟨c, hc⟩ : ∃ c, s[i] = c := ⟨_, rfl⟩
      rw [hc] at hd
      obtain ⟨n, hn⟩ : ∃ n : Nat, c.toNat = n := ⟨_, rfl⟩
      have hx : ∀ h : i < s.size, (s[i]'h).toNat = n := fun _ => by rw [hc]; exact hn
      have hnn : n < 256 := by rw [← hn]; exact c.toNat_lt
      have HD := Lib.hid hd
      have HN := Lib.hid hn
      clear hd hn hc
      by_cases h39 : n = 39
      · subst h39
        by_cases hl2 : i + 1 < s.size
        · obtain ⟨c2, hc2⟩ : ∃ c, s[i + 1] = c := ⟨_, rfl⟩
          obtain ⟨n2, hn2⟩ : ∃ n : Nat, c2.toNat = n := ⟨_, rfl⟩
          have hx2 : ∀ h : i + 1 < s.size, (s[i + 1]'h).toNat = n2 := fun _ => by rw [hc2]; exact hn2
          have HD2 := Lib.hid (hc2 ▸ drop_at s (i + 1) hl2)
          have HN2 := Lib.hid hn2
          clear hc2 hn2
          by_cases h39' : n2 = 39
          · subst h39'
            have hq1 := Lib.hid (quoted_qq hR.out HD.out HD2.out (UInt8.toNat_inj.1 HN.out) (UInt8.toNat_inj.1 HN2.out))
            go_wp2_with (go_at_call 69; refine (wb w _ out 39 _ rfl hB hb (by omega)).mono ?_)
            rintro e W1 ⟨rfl, hB1, hb1⟩
            go_wp2
            go_roundw
            case rel => exact ⟨i + 2, out ++ [39], by go_num, by omega, .inl (by omega), by simp; omega, hq1, hB1, hb1⟩
            case measure => simp [intOf]; omega
          · have hq1 := Lib.hid (quoted_end hR.out HD.out (UInt8.toNat_inj.1 HN.out) (fun x C e h => h39' (by rw [HD2.out] at e; injection e with e _; rw [← HN2.out, e, h]; rfl)))
            have t2 : ((n2 : Int) == 39) = false := by simp; omega
            go_wp2_with (go_at_call 70; refine (Tryz.Builder_String_any_k w.heap.size w.heap.size out _ hB.out hb.size).mono ?_)
            rintro e W1 ⟨rfl, _, hb1, _⟩
            go_wp2
            go_ret3
            rw [hq1.out]
            refine ⟨?_, hb.trans hb1⟩
            have e : s.size - ((bl s).drop (i + 1)).length = i + 1 := by simp [bl]; omega
            show Ending.returned _ = _
            simp only [e]
            rfl
        · have hq1 := Lib.hid (quoted_end hR.out HD.out (UInt8.toNat_inj.1 HN.out) (fun x C e h => by rw [drop_end s (i + 1) (by omega)] at e; cases e))
          have t2 : decide ((i : Int) + 1 < (s.size : Int)) = false := by simp; omega
          go_wp2_with (go_at_call 70; refine (Tryz.Builder_String_any_k w.heap.size w.heap.size out _ hB.out hb.size).mono ?_)
          rintro e W1 ⟨rfl, _, hb1, _⟩
          go_wp2
          go_ret3
          rw [hq1.out]
          refine ⟨?_, hb.trans hb1⟩
          have e : s.size - ((bl s).drop (i + 1)).length = i + 1 := by simp [bl]; omega
          show Ending.returned _ = _
          simp only [e]
          rfl
      · have t39 : ((n : Int) == 39) = false := by simp; omega
        by_cases h92 : n = 92
        · subst h92
          by_cases hl2 : i + 1 < s.size
          · obtain ⟨c2, hc2⟩ : ∃ c, s[i + 1] = c := ⟨_, rfl⟩
            obtain ⟨n2, hn2⟩ : ∃ n : Nat, c2.toNat = n := ⟨_, rfl⟩
            have hx2 : ∀ h : i + 1 < s.size, (s[i + 1]'h).toNat = n2 := fun _ => by rw [hc2]; exact hn2
            have HD2 := Lib.hid (hc2 ▸ drop_at s (i + 1) hl2)
            have HN2 := Lib.hid hn2
            clear hc2 hn2
            have hq1 := Lib.hid (quoted_esc hR.out HD.out HD2.out (UInt8.toNat_inj.1 HN.out))
            have hib := Lib.hid (ib_esc c2)
            have tl : ((i : Int) + 1 == (s.size : Int)) = false := by simp; omega
            by_cases g92 : c2 = 92
            · have hk : Lib.indexByte [92, 39, 110, 116] c2 = 0 := by rw [hib.out, if_pos g92]
              have hq2 := hq1.out
              rw [if_pos g92] at hq2
              have HK := Lib.hid hk
              have HQ2 := Lib.hid hq2
              clear hk hq2 g92
              go_wp2_with (first | (go_at_call 33; refine (ib_call _ c2 _ 0 (by rw [HN2.out]) HK.out).mono ?_; rintro e w' ⟨rfl, rfl⟩) | (go_at_call 69; refine (wb w _ out 92 _ rfl hB hb (by omega)).mono ?_; rintro e W1 ⟨rfl, hB1, hb1⟩))
              go_roundw
              case rel => exact ⟨i + 2, out ++ [92], by go_num, by omega, .inl (by omega), by simp; omega, HQ2, by assumption, by assumption⟩
              case measure => simp [intOf]; omega
            by_cases g39 : c2 = 39
            · have hk : Lib.indexByte [92, 39, 110, 116] c2 = 1 := by rw [hib.out, if_neg g92, if_pos g39]
              have hq2 := hq1.out
              rw [if_neg g92, if_pos g39] at hq2
              have HK := Lib.hid hk
              have HQ2 := Lib.hid hq2
              clear hk hq2 g39
              go_wp2_with (first | (go_at_call 33; refine (ib_call _ c2 _ 1 (by rw [HN2.out]) HK.out).mono ?_; rintro e w' ⟨rfl, rfl⟩) | (go_at_call 69; refine (wb w _ out 39 _ rfl hB hb (by omega)).mono ?_; rintro e W1 ⟨rfl, hB1, hb1⟩))
              go_roundw
              case rel => exact ⟨i + 2, out ++ [39], by go_num, by omega, .inl (by omega), by simp; omega, HQ2, by assumption, by assumption⟩
              case measure => simp [intOf]; omega
            by_cases g110 : c2 = 110
            · have hk : Lib.indexByte [92, 39, 110, 116] c2 = 2 := by rw [hib.out, if_neg g92, if_neg g39, if_pos g110]
              have hq2 := hq1.out
              rw [if_neg g92, if_neg g39, if_pos g110] at hq2
              have HK := Lib.hid hk
              have HQ2 := Lib.hid hq2
              clear hk hq2 g110
              go_wp2_with (first | (go_at_call 33; refine (ib_call _ c2 _ 2 (by rw [HN2.out]) HK.out).mono ?_; rintro e w' ⟨rfl, rfl⟩) | (go_at_call 69; refine (wb w _ out 10 _ rfl hB hb (by omega)).mono ?_; rintro e W1 ⟨rfl, hB1, hb1⟩))
              go_roundw
              case rel => exact ⟨i + 2, out ++ [10], by go_num, by omega, .inl (by omega), by simp; omega, HQ2, by assumption, by assumption⟩
              case measure => simp [intOf]; omega
            by_cases g116 : c2 = 116
            · have hk : Lib.indexByte [92, 39, 110, 116] c2 = 3 := by rw [hib.out, if_neg g92, if_neg g39, if_neg g110, if_pos g116]
              have hq2 := hq1.out
              rw [if_neg g92, if_neg g39, if_neg g110, if_pos g116] at hq2
              have HK := Lib.hid hk
              have HQ2 := Lib.hid hq2
              clear hk hq2 g116
              go_wp2_with (first | (go_at_call 33; refine (ib_call _ c2 _ 3 (by rw [HN2.out]) HK.out).mono ?_; rintro e w' ⟨rfl, rfl⟩) | (go_at_call 69; refine (wb w _ out 9 _ rfl hB hb (by omega)).mono ?_; rintro e W1 ⟨rfl, hB1, hb1⟩))
              go_roundw
              case rel => exact ⟨i + 2, out ++ [9], by go_num, by omega, .inl (by omega), by simp; omega, HQ2, by assumption, by assumption⟩
              case measure => simp [intOf]; omega
            have hk : Lib.indexByte [92, 39, 110, 116] c2 = -1 := by rw [hib.out, if_neg g92, if_neg g39, if_neg g110, if_neg g116]
            have hq2 := hq1.out
            rw [if_neg g92, if_neg g39, if_neg g110, if_neg g116] at hq2
            have HK := Lib.hid hk
            have HQ2 := Lib.hid hq2
            clear hk hq2 g92 g39 g110 g116
            go_wp2_with (first | (go_at_call 33; refine (ib_call _ c2 _ (-1) (by rw [HN2.out]) HK.out).mono ?_; rintro e w' ⟨rfl, rfl⟩))
            go_ret3
            rw [← HQ2.out]
            exact ⟨rfl, hb⟩
          · have hq1 := Lib.hid (quoted_esc_nil hR.out (drop_end s (i + 1) (by omega) ▸ HD.out) (UInt8.toNat_inj.1 HN.out))
            have tl : ((i : Int) + 1 == (s.size : Int)) = true := by simp; omega
            go_wp2
            go_ret3
            rw [hq1.out]
            exact ⟨rfl, hb⟩
        · have t92 : ((n : Int) == 92) = false := by simp; omega
          have hq1 := Lib.hid (quoted_else hR.out HD.out HN.out h39 h92)
          by_cases hr : n < 32 ∨ 126 < n
          · rw [if_pos hr] at hq1
            rcases hr with hr | hr
            · have tr : decide ((n : Int) < 32) = true := by simp; omega
              go_wp2
              go_ret3
              rw [← hq1.out]
              exact ⟨rfl, hb⟩
            · have tr : decide ((n : Int) < 32) = false := by simp; omega
              have tr2 : decide ((126 : Int) < n) = true := by simp; omega
              go_wp2
              go_ret3
              rw [← hq1.out]
              exact ⟨rfl, hb⟩
          · rw [if_neg hr] at hq1
            have tr : decide ((n : Int) < 32) = false := by simp; omega
            have tr2 : decide ((126 : Int) < n) = false := by simp; omega
            clear hr
            go_wp2_with (go_at_call 69; refine (wb w _ out c _ (by rw [HN.out]) hB hb (by omega)).mono ?_)
            rintro e W1 ⟨rfl, hB1, hb1⟩
            go_wp2
            go_roundw
            case rel => exact ⟨i + 1, out ++ [c], by go_num, by omega, .inl (by omega), by simp; omega, hq1, hB1, hb1⟩
            case measure => simp [intOf]; omega
    · go_wp2
      go_ret3
      have h1 := hR.out
      rw [drop_end s i (by omega)] at h1
      simp only [Lx.quotedM] at h1
      rw [← h1]
      exact ⟨rfl, hb⟩

theorem lex_quoted.calls (a0 : ByteArray) (r1 : ByteArray) (r2 r3 : Int) (w : World) (h : lex_quoted.f a0 = some (r1, r2, r3)) :
    Calls Tryz.prog 51 #[.string a0] w fun e w' => e = .returned (.tuple #[.string r1, .int .i64 r2, .int .i64 r3]) ∧ Below w.heap.size w w' := by
  unfold lex_quoted.f at h
  split at h
  · refine (lex_quoted.walk a0 w (by assumption)).mono ?_
    intro e w' ⟨he, hb⟩
    refine ⟨?_, hb⟩
    split at h <;> rename_i hq <;> rw [hq] at he <;> simp only [Option.some.injEq, Prod.mk.injEq] at h <;> obtain ⟨rfl, rfl, rfl⟩ := h <;> exact he
  · cases h
end Go.Proofs.YtecjdjdfikcliaaGreatDoor
end
