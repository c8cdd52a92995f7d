/- Several small texts of this claim in one. -/
import Derived.Test.YthnjdfblappkfaaDoorWBuilder
import Derived.Test.YthnjdfblappkfaaDoorShelf
import Derived.Lib.ConvBytes
import Derived.Test.YthnjdfblappkfaaDoorMCut
import Derived.WideMake
section
/-
  write.quoted: a name between quotes.
-/
namespace Go.Proofs.YthnjdfblappkfaaDoor
open Go.RowKit

def escEs : Array MapEntry := #[{ key := .int .u8 39, val := .string ⟨#[39, 39]⟩, born := 0 }, { key := .int .u8 92, val := .string ⟨#[92, 92]⟩, born := 1 }, { key := .int .u8 10, val := .string ⟨#[92, 110]⟩, born := 2 }, { key := .int .u8 9, val := .string ⟨#[92, 116]⟩, born := 3 }]

theorem set_alloc (w : World) (o o' : Obj) : (w.alloc o).heap.setIfInBounds w.heap.size o' = (w.alloc o').heap := by
  have e : (w.alloc o).heap = w.heap.push o := rfl
  have e' : (w.alloc o').heap = w.heap.push o' := rfl
  rw [e, e']
  apply Array.ext
  · simp
  · intro i h1 h2
    simp at h1
    rcases Nat.lt_or_ge i w.heap.size with h | h
    · rw [Array.getElem_setIfInBounds_ne (by simpa using h1) (by omega)]
      simp [Array.getElem_push, h]
    · obtain rfl : i = w.heap.size := by omega
      simp

theorem run_put (w : World) (es : Array MapEntry) (c : Nat) (k : Int) (v : Value) (hf : Instr.findNow (.int .u8) (.int .u8 k) es.toList 0 = some none) :
    (Instr.mapUpdate 104 (.map (some w.heap.size)) (.int .u8 k) v).run Tryd.prog (w.alloc (.map es c)) = .ok () (w.alloc (.map (es.push { key := .int .u8 k, val := v, born := c }) (c + 1))) := by
  have hb := (MapKept.heap_alloc w (.map es c)).1
  have hc : (Instr.checkKey false 10000 5 (.int .u8 k)).run Tryd.prog (w.alloc (.map es c)) = .ok () _ := MapKept.run_checkKey (k := .int .u8 k) Tryd.underlying5 (by simp [MapKept.IsKey]) false 9999
  simp [Instr.mapUpdate, run_underlying Tryd.underlying104, MapKept.run_getObj_map hb, hc, MapKept.run_findKey Tryd.underlying5 hf, MapKept.run_setObj_map _ hb, Result.andThen]
  rw [set_alloc]
  rfl

set_option maxHeartbeats 1000000 in
set_option maxRecDepth 100000 in
theorem write_escapes.walk (w : World) :
    Calls Tryd.prog 72 #[] w fun e w' => e = .returned (.map (some w.heap.size)) ∧ w' = w.alloc (.map escEs 4) := by
  have hmm := @run_makeMap Tryd.prog
  have h1 := run_put w #[] 0 39 (.string ⟨#[39, 39]⟩) rfl
  have h2 := run_put w #[{ key := .int .u8 39, val := .string ⟨#[39, 39]⟩, born := 0 }] 1 92 (.string ⟨#[92, 92]⟩) rfl
  have h3 := run_put w #[{ key := .int .u8 39, val := .string ⟨#[39, 39]⟩, born := 0 }, { key := .int .u8 92, val := .string ⟨#[92, 92]⟩, born := 1 }] 2 10 (.string ⟨#[92, 110]⟩) rfl
  have h4 := run_put w #[{ key := .int .u8 39, val := .string ⟨#[39, 39]⟩, born := 0 }, { key := .int .u8 92, val := .string ⟨#[92, 92]⟩, born := 1 }, { key := .int .u8 10, val := .string ⟨#[92, 110]⟩, born := 2 }] 3 9 (.string ⟨#[92, 116]⟩) rfl
  simp only [List.push_toArray, List.cons_append, List.nil_append, Nat.reduceAdd, Nat.zero_add] at h1 h2 h3 h4
  go_enter Tryd.func72, Tryd.ntmps72
  go_wp2
  go_ret
  exact ⟨rfl, rfl⟩

/-- What is written for a byte between quotes. -/
def escB (b : UInt8) : List UInt8 := if b = 39 then [39, 39] else if b = 92 then [92, 92] else if b = 10 then [92, 110] else if b = 9 then [92, 116] else [b]
def quotedL (l : List UInt8) : List UInt8 := 39 :: (l.flatMap escB ++ [39])
def escV (b : UInt8) : Option ByteArray := if b = 39 then some ⟨#[39, 39]⟩ else if b = 92 then some ⟨#[92, 92]⟩ else if b = 10 then some ⟨#[92, 110]⟩ else if b = 9 then some ⟨#[92, 116]⟩ else none

theorem find_esc (b : UInt8) : Instr.findNow (.int .u8) (.int .u8 (b.toNat : Int)) escEs.toList 0 = (if b = 39 then some (some (0, .string ⟨#[39, 39]⟩)) else if b = 92 then some (some (1, .string ⟨#[92, 92]⟩)) else if b = 10 then some (some (2, .string ⟨#[92, 110]⟩)) else if b = 9 then some (some (3, .string ⟨#[92, 116]⟩)) else some none) := by
  have key : ∀ c : UInt8, (((b.toNat : Int) == (c.toNat : Int)) = decide (b = c)) := by
    intro c
    rw [Bool.eq_iff_iff, beq_iff_eq, decide_eq_true_iff]
    constructor
    · intro h; exact UInt8.toNat_inj.1 (by omega)
    · rintro rfl; rfl
  have k1 := key 39
  have k2 := key 92
  have k3 := key 10
  have k4 := key 9
  simp only [show ((39 : UInt8).toNat : Int) = 39 from rfl] at k1
  simp only [show ((92 : UInt8).toNat : Int) = 92 from rfl] at k2
  simp only [show ((10 : UInt8).toNat : Int) = 10 from rfl] at k3
  simp only [show ((9 : UInt8).toNat : Int) = 9 from rfl] at k4
  simp only [escEs, Instr.findNow, Instr.sameNow, if_true, k1, k2, k3, k4]
  by_cases h1 : b = 39
  · simp [h1]
  by_cases h2 : b = 92
  · simp [h2]
  by_cases h3 : b = 10
  · simp [h3]
  by_cases h4 : b = 9
  · simp [h4]
  · simp [h1, h2, h3, h4]

theorem run_esc (w : World) (r : Nat) (b : UInt8) (hm : w.heap[r]? = some (.map escEs 4)) :
    (Instr.lookup 104 (.map (some r)) (.int .u8 (b.toNat : Int)) true).run Tryd.prog w = .ok (match escV b with | some v => .tuple #[.string v, .bool true] | none => .tuple #[.string ⟨#[]⟩, .bool false]) w := by
  have hc : ∀ e, (Instr.checkKey e 10000 5 (.int .u8 (b.toNat : Int))).run Tryd.prog w = .ok () w := fun e => MapKept.run_checkKey (k := .int .u8 (b.toNat : Int)) Tryd.underlying5 (by simp [MapKept.IsKey]) e 9999
  have hf := find_esc b
  simp only [Instr.lookup, Sem.run_bind, run_underlying Tryd.underlying104, Result.andThen, MapKept.run_getObj_map hm, Sem.run_pure, hc]
  by_cases h1 : b = 39
  · rw [if_pos h1] at hf
    rw [MapKept.run_findKey Tryd.underlying5 hf]
    simp [escV, h1]
  rw [if_neg h1] at hf
  by_cases h2 : b = 92
  · rw [if_pos h2] at hf
    rw [MapKept.run_findKey Tryd.underlying5 hf]
    simp [escV, h2]
  rw [if_neg h2] at hf
  by_cases h3 : b = 10
  · rw [if_pos h3] at hf
    rw [MapKept.run_findKey Tryd.underlying5 hf]
    simp [escV, h3]
  rw [if_neg h3] at hf
  by_cases h4 : b = 9
  · rw [if_pos h4] at hf
    rw [MapKept.run_findKey Tryd.underlying5 hf]
    simp [escV, h4]
  rw [if_neg h4] at hf
  rw [MapKept.run_findKey Tryd.underlying5 hf]
  simp [escV, h1, h2, h3, h4, go_sem]
end Go.Proofs.YthnjdfblappkfaaDoor
end
section
/-
  write.quoted: the walk.
-/
namespace Go.Proofs.YthnjdfblappkfaaDoor
open Go.RowKit

theorem builderF_old {B b : Nat} {bs : List Value} {w w' : World} (h : Lib.IsBuilderF 109 5 B b bs w) (ho : ∀ k, k < w.heap.size → w'.heap[k]? = w.heap[k]?) : Lib.IsBuilderF 109 5 B b bs w' := by
  have one : ∀ p, Lib.BuilderAtF 109 5 B b p bs w → Lib.BuilderAtF 109 5 B b p bs w' := by
    rintro p ⟨hB, v, hb, ⟨hl, hr⟩, hne⟩
    refine ⟨hB, v, (ho b (Array.getElem?_eq_some_iff.1 hb).1).trans hb, ⟨hl, ?_⟩, hne⟩
    rcases hr with hr | ⟨g, cap, cur, fz, hv, hbg, hg, rest⟩
    · exact .inl hr
    · exact .inr ⟨g, cap, cur, fz, hv, hbg, (ho g (Array.getElem?_eq_some_iff.1 hg).1).trans hg, rest⟩
  exact h.elim (fun x => .inl (one _ x)) (fun x => .inr (one _ x))

theorem below_bytes {B : Nat} {a w : World} (h : Below B a w) (hB : B ≤ w.heap.size) (s : ByteArray) : Below B a (Lib.bytesWorld w 5 s) :=
  h.trans ⟨rfl, rfl, rfl, by rw [Lib.bytesWorld_size]; omega, fun k hk => Lib.bytesWorld_at_old w _ s k (by omega)⟩

theorem bytesCells_get (w : World) (s : ByteArray) (i : Nat) (h : i < s.size) : (Lib.bytesCells w 5 s)[i]? = some (.int .u8 (s[i]'h).toNat) := by
  have h' : i < s.data.size := h
  simp only [Lib.bytesCells]
  rw [Array.getElem?_append_left (by simpa using h')]
  rw [Array.getElem?_map, Array.getElem?_eq_getElem h']
  rfl

theorem quoted_step (s : ByteArray) (i : Nat) (h : i < s.size) : (39 : UInt8) :: ((bl s).take (i + 1)).flatMap escB = (39 :: ((bl s).take i).flatMap escB) ++ escB (s[i]'h) := by
  rw [List.take_succ_eq_append_getElem (by rw [bl_length]; exact h), List.flatMap_append]
  simp
  rfl
theorem escB_len (b : UInt8) : (escB b).length ≤ 2 := by
  unfold escB
  repeat' split
  all_goals simp
theorem flat_len : ∀ l : List UInt8, (l.flatMap escB).length ≤ 2 * l.length
  | [] => by simp
  | b :: l => by have := flat_len l; have := escB_len b; rw [List.flatMap_cons, List.length_append, List.length_cons]; omega
theorem byteCells_str (l : List UInt8) (s : ByteArray) : Lib.byteCells l ++ Lib.strCells s = Lib.byteCells (l ++ bl s) := by
  rw [Lib.byteCells_append]; rfl

set_option maxHeartbeats 2000000 in
set_option maxRecDepth 100000 in
theorem write_quoted.walk (s : ByteArray) (w : World) (hs : s.size ≤ 17592186044416) :
    Calls Tryd.prog 42 #[.string s] w fun e w' => e = .returned (.string ⟨(quotedL (bl s)).toArray⟩) ∧ Below w.heap.size w w' := by
  have hcv := fun W => Lib.run_convert_string_bytes (P := Tryd.prog) W 9 107 5 s Tryd.underlying9 Tryd.underlying107 Tryd.underlying5
  go_enter Tryd.func42, Tryd.ntmps42
  have hw2 := Lib.fresh_isBuilder 109 5 (w.alloc (Obj.map escEs 4))
  have e1 : (w.alloc (Obj.map escEs 4)).heap.size = w.heap.size + 1 := World.size_alloc _ _
  rw [e1] at hw2
  have hm0 := (Below.heap_alloc (w.alloc (Obj.map escEs 4)) (.cells #[.pointer none, .slice none 0 0] 109) w.heap.size (by rw [e1]; omega)).trans (MapKept.heap_alloc w (Obj.map escEs 4)).1
  have hb0 : Below w.heap.size w ((w.alloc (Obj.map escEs 4)).alloc (.cells #[.pointer none, .slice none 0 0] 109)) := ((Below.refl _ w).alloc (Nat.le_refl _) _).alloc (by rw [e1]; omega) _
  have hz0 : ((w.alloc (Obj.map escEs 4)).alloc (.cells #[.pointer none, .slice none 0 0] 109)).heap.size = w.heap.size + 2 := by rw [World.size_alloc, e1]
  go_wp2_with (first | (go_at_call 72; refine (write_escapes.walk _).mono ?_; rintro e w1 ⟨rfl, rfl⟩) | (go_at_call 73; refine (WriteByte_m (w.heap.size + 1) (w.heap.size + 1) [] 39 _ (Lib.IsBuilderF.of hw2) (by simp) (by rw [hz0]; omega)).mono ?_; rintro e w3 ⟨rfl, h3, b3, k3⟩))
  have hm3 := k3 _ _ hm0 (by omega) (by intro c fz h; cases h)
  have hz3 := b3.size
  rw [hz0] at hz3
  have hb3 := hb0.trans (b3.mono (by omega))
  have i3 : Lib.IsBuilderF 109 5 (w.heap.size + 1) (w.heap.size + 1) (Lib.byteCells [39]) w3 := .inr h3
  clear k3 b3 h3 hz0 hb0 hm0 hw2
  have i4 := builderF_old i3 (fun k hk => Lib.bytesWorld_at_old w3 5 s k hk)
  have hm4 := (Lib.bytesWorld_at_old w3 5 s w.heap.size (by omega)).trans hm3
  have hr4 := Lib.bytesWorld_at_new w3 5 s
  have hb4 := below_bytes hb3 (by omega) s
  have hz4 := Lib.bytesWorld_size w3 5 s
  go_wp2
  have hK : Hid (w3.heap.size = w3.heap.size) := rfl
  generalize hW4 : Lib.bytesWorld w3 5 s = w4 at i4 hm4 hr4 hb4 hz4 ⊢
  go_loopw [14] (fun v14 wr => ∃ (i : Nat), v14 = .int .i64 i ∧ i ≤ s.size ∧ Lib.IsBuilderF 109 5 (w.heap.size + 1) (w.heap.size + 1) (Lib.byteCells (39 :: ((bl s).take i).flatMap escB)) wr ∧ wr.heap[w.heap.size]? = some (.map escEs 4) ∧
    wr.heap[w3.heap.size]? = some (.cells (Lib.bytesCells w3 5 s) 5 ((Lib.bytesCells w3 5 s).size, (Lib.bytesCells w3 5 s).size + 1)) ∧ Below w.heap.size w wr ∧ w.heap.size + 2 ≤ wr.heap.size) (fun v14 _ => s.size - (intOf v14).toNat)
  case atStart => exact ⟨0, rfl, Nat.zero_le _, i4, hm4, hr4, hb4, by omega⟩
  case round =>
    obtain ⟨i, rfl, hi, hI, hm, hr, hb, hz⟩ := hrel
    have hacc : (39 :: ((bl s).take i).flatMap escB).length ≤ 2 * s.size + 1 := by
      have h1 := flat_len ((bl s).take i)
      have h2 := List.length_take_le' i (bl s)
      rw [bl_length] at h2
      rw [List.length_cons]
      omega
    by_cases hlt : i < s.size
    · have hc : wr.cell? ⟨w3.heap.size, i, none⟩ = some (.int .u8 (s[i]'hlt).toNat) := (Lib.cell_of_heap hr i).trans (bytesCells_get w3 s i hlt)
      have hlk := run_esc wr w.heap.size (s[i]'hlt) hm
      have hq := Lib.hid (quoted_step s i hlt)
      cases he : escV (s[i]'hlt) with
      | some v =>
        rw [he] at hlk
        have hv : Hid (bl v = escB (s[i]'hlt) ∧ v.size ≤ 2) := by
          show _ ∧ _
          revert he
          unfold escV escB
          repeat' split
          all_goals (intro he; cases he)
          all_goals exact ⟨rfl, by decide⟩
        clear he
        go_wp2_with (go_at_call 74; refine (WriteString_m (w.heap.size + 1) (w.heap.size + 1) _ v wr hI (by rw [Lib.byteCells_length]; have := hv.out.2; omega) (by omega)).mono ?_; rintro e w5 ⟨rfl, h5, b5, k5⟩)
        have hz5 := b5.size
        refine ⟨⟨i + 1, by simp, by omega, ?_, k5 _ _ hm (by omega) (by intro c fz h; cases h), k5 _ _ hr (by omega) (by intro c fz h; cases h; exact Nat.lt_succ_self _), hb.trans (b5.mono (by omega)), by omega⟩, by simp [intOf]; omega⟩
        rw [hq.out]
        exact .inr (by rw [Lib.byteCells_append]; rw [← hv.out.1]; exact h5)
      | none =>
        rw [he] at hlk
        have hv : Hid (escB (s[i]'hlt) = [s[i]'hlt]) := by
          show _ = _
          revert he
          unfold escV escB
          repeat' split
          all_goals (intro he; first | rfl | cases he)
        clear he
        go_wp2_with (go_at_call 73; refine (WriteByte_m (w.heap.size + 1) (w.heap.size + 1) _ _ wr hI (by rw [Lib.byteCells_length]; omega) (by omega)).mono ?_; rintro e w5 ⟨rfl, h5, b5, k5⟩)
        have hz5 := b5.size
        refine ⟨⟨i + 1, by simp, by omega, ?_, k5 _ _ hm (by omega) (by intro c fz h; cases h), k5 _ _ hr (by omega) (by intro c fz h; cases h; exact Nat.lt_succ_self _), hb.trans (b5.mono (by omega)), by omega⟩, by simp [intOf]; omega⟩
        rw [hq.out]
        exact .inr (by rw [Lib.byteCells_append]; rw [hv.out]; exact h5)
    · obtain rfl : i = s.size := by omega
      have hfull : (bl s).take s.size = bl s := List.take_of_length_le (Nat.le_of_eq (bl_length s))
      rw [hfull] at hI hacc
      have hfin : Hid (39 :: ((bl s).flatMap escB) ++ [39] = quotedL (bl s)) := rfl
      go_wp2_with (go_at_call 73; refine (WriteByte_m (w.heap.size + 1) (w.heap.size + 1) _ 39 wr hI (by rw [Lib.byteCells_length]; omega) (by omega)).mono ?_; rintro e w5 ⟨rfl, h5, b5, k5⟩)
      have hz5 := b5.size
      have h6 : Lib.IsBuilderF 109 5 (w.heap.size + 1) (w.heap.size + 1) (Lib.byteCells (39 :: ((bl s).flatMap escB) ++ [39])) w5 := .inr (by rw [Lib.byteCells_append]; exact h5)
      rw [hfin.out] at h6
      go_wp2_with (go_at_call 75; refine (Tryd.Builder_String_k (w.heap.size + 1) (w.heap.size + 1) (quotedL (bl s)) w5 h6 (by unfold quotedL; simp)).mono ?_; rintro e w6 ⟨rfl, h7, b7, k7⟩)
      go_ret
      exact ⟨rfl, (hb.trans (b5.mono (by omega))).trans (b7.mono (by omega))⟩
end Go.Proofs.YthnjdfblappkfaaDoor
end
section
/-
  write.Name: a name's text.
-/
namespace Go.Proofs.YthnjdfblappkfaaDoor
open Go.RowKit

def nameM (l : List UInt8) : List UInt8 := if plainM l = true then l else quotedL l

set_option maxHeartbeats 1000000 in
theorem write_Name.walk (s : ByteArray) (w : World) (hs : s.size ≤ 17592186044416) (hL : LaidW w) :
    Calls Tryd.prog 17 #[.string s] w fun e w' => e = .returned (.string ⟨(nameM (bl s)).toArray⟩) ∧ Below w.heap.size w w' := by
  cases hp : plainM (bl s) with
  | true =>
    have hn : Hid ((⟨(nameM (bl s)).toArray⟩ : ByteArray) = s) := by show _ = _; unfold nameM; rw [if_pos hp]
    have HP := Lib.hid hp
    clear hp
    go_enter Tryd.func17, Tryd.ntmps17
    go_wp2_with (go_at_call 41; refine (write_plain.walk s w (by omega) hL).mono ?_; rintro e w1 ⟨rfl, hb1⟩; rw [HP.out])
    go_ret
    exact ⟨by rw [hn.out]; rfl, hb1⟩
  | false =>
    have hn : Hid (nameM (bl s) = quotedL (bl s)) := by show _ = _; unfold nameM; rw [if_neg (by rw [hp]; decide)]
    have HP := Lib.hid hp
    clear hp
    go_enter Tryd.func17, Tryd.ntmps17
    go_wp2_with (first | (go_at_call 41; refine (write_plain.walk s w (by omega) hL).mono ?_; rintro e w1 ⟨rfl, hb1⟩; rw [HP.out]) | (go_at_call 42; refine (write_quoted.walk s _ hs).mono ?_; rintro e w2 ⟨rfl, hb2⟩))
    go_ret
    exact ⟨by rw [hn.out]; rfl, hb1.trans (hb2.mono hb1.size)⟩
end Go.Proofs.YthnjdfblappkfaaDoor
end
