/-
  The library's table of powers of ten stays as it is while a call only makes new memory; strconv.Itoa with the frame in one word.
  Conditions: the table reads as its initialiser lays it.
-/
import Derived.Test.YtoceeegdbnigeaaDoorPlain
import Derived.Test.YtoceeegdbnigeaaDoorShelf
import Derived.WalkSmall
namespace Go.Proofs.YtoceeegdbnigeaaDoor
open Go Go.RowKit

theorem gPow : Tryd.prog.globalNamed "internal/strconv.uint64pow10" = some 1 := by kernel_rfl
/-- The table of powers of ten reads as its initialiser lays it. -/
def Tab (w : World) : Prop := Lib.TabIs Tryd.prog w "internal/strconv.uint64pow10" .u64 Lib.pow10Tab
theorem Tab.lt {w : World} (h : Tab w) : 1 < w.heap.size :=
  World.block_lt_of_cell? w ⟨1, 0, none⟩ (Lib.TabIs.cell h gPow 0 (by decide))
theorem Tab.below {w w' : World} (h : Tab w) (hb : Below w.heap.size w w') : Tab w' := var?_below hb gPow h.lt h
theorem below_grown (w : World) (k : Nat) (os : Array Obj) : Below w.heap.size w (Sort.grow (w.drewN k) os) :=
  ⟨rfl, rfl, rfl, by show w.heap.size ≤ (w.heap ++ os).size; simp, fun i hi => by show (w.heap ++ os)[i]? = _; rw [Array.getElem?_append_left hi]⟩
theorem itoa_any (n : Int) (h0 : -9223372036854775808 ≤ n) (h1 : n ≤ 9223372036854775807) (w : World) (ht : Tab w) :
    Calls Tryd.prog 31 #[.int .i64 n] w fun e w' => e = .returned (.string ⟨(Lib.itoa n).toArray⟩) ∧ Below w.heap.size w w' :=
  (Tryd.strconv_Itoa n h0 h1 w ht).mono fun _ _ ⟨he, k, os, hw⟩ => ⟨he, hw ▸ below_grown w k os⟩
end Go.Proofs.YtoceeegdbnigeaaDoor
