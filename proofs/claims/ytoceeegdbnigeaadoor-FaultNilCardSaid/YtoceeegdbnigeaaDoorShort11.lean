/-
  Plans: whether one is short.
  Conditions: none.
-/
import Derived.Test.YtoceeegdbnigeaaDoorFlt1
set_option linter.unusedVariables false
namespace Go.Proofs.YtoceeegdbnigeaaDoor
open Go Go.RowKit

theorem short_any (A : Int) (d : Bool) (v : Value) (L : List Int) (b : Bool) (hb : decide (L.length ≤ 100) = b) (w : World) (hv : IntsAt w v L) :
    Calls Tryd.prog 12 #[planV A d v] w fun e w' => e = .returned (.bool b) ∧ Below w.heap.size w w' := by
  obtain ⟨p, c, rfl, _, _⟩ := hv
  have d1 : decide ((L.length : Int) ≤ 100) = b := by
    rw [← hb, decide_eq_decide]
    omega
  have c1 : Below w.heap.size w (w.alloc (.cells #[.int .i64 A, .bool d, .slice p L.length c] 24)) := (Below.refl _ _).alloc (Nat.le_refl _) _
  obtain ⟨k0, k1, k2⟩ := planAt_new w A d (.slice p L.length c) 24
  clear hb
  go_enter Tryd.func12, Tryd.ntmps12
  go_wp2_with fail
  go_ret
  exact ⟨rfl, c1⟩
end Go.Proofs.YtoceeegdbnigeaaDoor
