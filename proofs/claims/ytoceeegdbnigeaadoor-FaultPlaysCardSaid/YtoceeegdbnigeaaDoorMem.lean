/-
  Plain Lean, no program: cells of memory behind a call, an allocation, a store.
  Conditions: none.
-/
import Derived.Test.YtoceeegdbnigeaaDoorPlain
import Derived.WalkKit
set_option linter.unusedVariables false
namespace Go.Proofs.YtoceeegdbnigeaaDoor
open Go Go.RowKit

theorem cell_kept {w w' : World} {a : Addr} {v : Value} (h : w.cell? a = some v) (hb : Below w.heap.size w w') : w'.cell? a = some v := by
  rw [hb.cell (World.block_lt_of_cell? w _ h)]; exact h
theorem cell_old {w : World} {o : Obj} {a : Addr} {v : Value} (h : w.cell? a = some v) : (w.alloc o).cell? a = some v :=
  cell_kept h ((Below.refl _ _).alloc (Nat.le_refl _) _)
theorem new_cell {w : World} (cs : Array Value) (t : TypeId) (j : Nat) (v : Value) (h : cs[j]? = some v) : (w.alloc (.cells cs t)).cell? ⟨w.heap.size, j, none⟩ = some v := by
  rw [Lib.cell_of_heap (heap_alloc_new w _)]; exact h
theorem new_free {w : World} (cs : Array Value) (t : TypeId) (j : Nat) : (w.alloc (.cells cs t)).frozen? ⟨w.heap.size, j, none⟩ = false := Lib.frozen_of_heap (heap_alloc_new w _) j
theorem free_kept {w w' : World} {a : Addr} (h : w.frozen? a = false) (hl : a.block < w.heap.size) (hb : Below w.heap.size w w') : w'.frozen? a = false := by rw [hb.frozen hl]; exact h
theorem below_set {w w1 : World} {B : Nat} (h : Below B w w1) (b : Nat) (hb : B ≤ b) (j : Nat) (v : Value) : Below B w (w1.setCell ⟨b, j, none⟩ v) := h.setCell (p := ⟨b, j, none⟩) hb v
theorem below_grow {w w' : World} (h : Below w.heap.size w w') (row : Option Nat) : w.grownBy w' row := ⟨h.os, h.tape, h.output, h.size, fun k hk _ => h.block k hk⟩
theorem own_below {w w' : World} {B e : Nat} {v : Value} {n : Nat} {xs : List Value} (h : w.ownsRow B e 1 v n xs) (hb : Below w.heap.size w w') : w'.ownsRow B e 1 v n xs :=
  h.kept (below_grow hb none) (by cases v.ownBlock <;> simp)
end Go.Proofs.YtoceeegdbnigeaaDoor
