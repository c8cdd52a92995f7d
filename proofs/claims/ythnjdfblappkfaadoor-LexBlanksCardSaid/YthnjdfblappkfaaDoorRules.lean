/-
  lex.rules: the seven rules, as they lie in memory.
-/
import Derived.Test.YthnjdfblappkfaaDoorTakes
namespace Go.Proofs.YthnjdfblappkfaaDoor
open Go.RowKit Go.Proofs.YthnjdfblappkfaaDoorW.PrintWords

def bLower : ByteArray := ⟨#[97, 98, 99, 100, 101, 102, 103, 104, 105, 106, 107, 108, 109, 110, 111, 112, 113, 114, 115, 116, 117, 118, 119, 120, 121, 122]⟩
def bUpper : ByteArray := ⟨#[65, 66, 67, 68, 69, 70, 71, 72, 73, 74, 75, 76, 77, 78, 79, 80, 81, 82, 83, 84, 85, 86, 87, 88, 89, 90, 95]⟩
def bDigit : ByteArray := ⟨#[48, 49, 50, 51, 52, 53, 54, 55, 56, 57]⟩
def bSign : ByteArray := ⟨#[40, 41, 91, 93, 44, 124]⟩
def bBang : ByteArray := ⟨#[33, 59]⟩
def bQuote : ByteArray := ⟨#[39]⟩

/-- The rules in memory: a row of seven, each the bytes that it begins with and its function; what the functions have captured. -/
structure RulesAt (w : World) (g : Nat) (s0 k0 s1 k1 k3 k4 : Addr) : Prop where
  row : w.heap[g]? = some (.cells #[.string bLower, .func (.func 113) #[] #[.pointer (some s0), .pointer (some k0)], .string bUpper, .func (.func 113) #[] #[.pointer (some s1), .pointer (some k1)],
    .string bDigit, .func (.func 85) #[] #[], .string bSign, .func (.func 115) #[] #[.pointer (some k3)], .string bBang, .func (.func 115) #[] #[.pointer (some k4)],
    .string setSymbol, .func (.func 87) #[] #[], .string bQuote, .func (.func 88) #[] #[]] 73 (0, 0))
  c0 : w.cell? s0 = some (.string setLetter)
  d0 : w.cell? k0 = some (.int .u8 1)
  c1 : w.cell? s1 = some (.string setLetter)
  d1 : w.cell? k1 = some (.int .u8 3)
  d3 : w.cell? k3 = some (.int .u8 5)
  d4 : w.cell? k4 = some (.int .u8 1)

theorem RulesAt.below {w w' : World} {g : Nat} {s0 k0 s1 k1 k3 k4 : Addr} (h : RulesAt w g s0 k0 s1 k1 k3 k4) (hb : Below w.heap.size w w') : RulesAt w' g s0 k0 s1 k1 k3 k4 :=
  ⟨blk_below h.row hb, pw_cell_below hb h.c0, pw_cell_below hb h.d0, pw_cell_below hb h.c1, pw_cell_below hb h.d1, pw_cell_below hb h.d3, pw_cell_below hb h.d4⟩

theorem seven (w : World) (o0 o1 o2 o3 o4 o5 o6 : Obj) :
    let W := ((((((w.alloc o0).alloc o1).alloc o2).alloc o3).alloc o4).alloc o5).alloc o6
    W.heap[w.heap.size]? = some o0 ∧ W.heap[w.heap.size + 1]? = some o1 ∧ W.heap[w.heap.size + 2]? = some o2 ∧ W.heap[w.heap.size + 3]? = some o3 ∧ W.heap[w.heap.size + 4]? = some o4 ∧ W.heap[w.heap.size + 5]? = some o5 ∧ W.heap[w.heap.size + 6]? = some o6 := by
  intro W
  have at_ : ∀ (V : World) (o : Obj) (n : Nat), V.heap.size = n → (V.alloc o).heap[n]? = some o := fun V o n h => h ▸ blk_new V o
  refine ⟨?_, ?_, ?_, ?_, ?_, ?_, ?_⟩
  · exact blk_alloc (blk_alloc (blk_alloc (blk_alloc (blk_alloc (blk_alloc (at_ _ _ _ rfl) _) _) _) _) _) _
  · exact blk_alloc (blk_alloc (blk_alloc (blk_alloc (blk_alloc (at_ _ _ _ (by simp)) _) _) _) _) _
  · exact blk_alloc (blk_alloc (blk_alloc (blk_alloc (at_ _ _ _ (by simp)) _) _) _) _
  · exact blk_alloc (blk_alloc (blk_alloc (at_ _ _ _ (by simp)) _) _) _
  · exact blk_alloc (blk_alloc (at_ _ _ _ (by simp)) _) _
  · exact blk_alloc (at_ _ _ _ (by simp)) _
  · exact at_ _ _ _ (by simp)
theorem cell_one {w : World} {b : Nat} {v : Value} {t : TypeId} (h : w.heap[b]? = some (.cells #[v] t (0, 0))) : w.cell? ⟨b, 0, none⟩ = some v := blk_cell h 0
set_option maxRecDepth 100000 in
theorem of_make (k : Int) (set : ByteArray) (w : World) :
    Calls Tryd.prog 84 #[.int .u8 k, .string set] w fun e w' => e = .returned (.func (.func 113) #[] #[.pointer (some ⟨w.heap.size + 1, 0, none⟩), .pointer (some ⟨w.heap.size, 0, none⟩)]) ∧ (w.alloc (.cells #[.int .u8 k] 5)).alloc (.cells #[.string set] 9) = w' := by
  go_enter Tryd.func84, Tryd.ntmps84
  go_wp2
  go_ret
  exact ⟨rfl, rfl⟩
set_option maxRecDepth 100000 in
theorem one_make (k : Int) (w : World) :
    Calls Tryd.prog 86 #[.int .u8 k] w fun e w' => e = .returned (.func (.func 115) #[] #[.pointer (some ⟨w.heap.size, 0, none⟩)]) ∧ w.alloc (.cells #[.int .u8 k] 5) = w' := by
  go_enter Tryd.func86, Tryd.ntmps86
  go_wp2
  go_ret
  exact ⟨rfl, rfl⟩

set_option maxHeartbeats 4000000 in
set_option maxRecDepth 100000 in
theorem rules_walk (w : World) :
    Calls Tryd.prog 49 #[] w fun e w' => ∃ g s0 k0 s1 k1 k3 k4, e = .returned (.slice (some ⟨g, 0, none⟩) 7 7) ∧ RulesAt w' g s0 k0 s1 k1 k3 k4 ∧ Below w.heap.size w w' ∧ w.heap.size ≤ g := by
  go_enter Tryd.func49, Tryd.ntmps49
  go_wp2_with fail
  refine (of_make 1 _ _).mono ?_
  rintro e w1 ⟨rfl, rfl⟩
  go_wp2_with fail
  refine (of_make 3 _ _).mono ?_
  rintro e w1 ⟨rfl, rfl⟩
  go_wp2_with fail
  refine (one_make 5 _).mono ?_
  rintro e w1 ⟨rfl, rfl⟩
  go_wp2_with fail
  refine (one_make 1 _).mono ?_
  rintro e w1 ⟨rfl, rfl⟩
  go_wp2
  go_ret
  refine ⟨w.heap.size + 6, ⟨w.heap.size + 1, 0, none⟩, ⟨w.heap.size, 0, none⟩, ⟨w.heap.size + 3, 0, none⟩, ⟨w.heap.size + 2, 0, none⟩, ⟨w.heap.size + 4, 0, none⟩, ⟨w.heap.size + 5, 0, none⟩, rfl, ?_, ?_, by omega⟩
  · obtain ⟨h0, h1, h2, h3, h4, h5, h6⟩ := seven w _ _ _ _ _ _ _
    exact ⟨h6, cell_one h1, cell_one h0, cell_one h3, cell_one h2, cell_one h4, cell_one h5⟩
  · exact ((((((((Below.refl _ w).alloc (Nat.le_refl _) _).alloc (by simp <;> omega) _).alloc (by simp <;> omega) _).alloc (by simp <;> omega) _).alloc (by simp <;> omega) _).alloc (by simp <;> omega) _).alloc (by simp <;> omega) _)
end Go.Proofs.YthnjdfblappkfaaDoor
