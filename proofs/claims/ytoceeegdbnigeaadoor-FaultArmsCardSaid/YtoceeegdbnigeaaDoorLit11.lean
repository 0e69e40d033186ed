/-
  Plain Lean, no program: the bounds of numbers of 16 and of 32 bits.
  Conditions: none.
-/
import Derived.Test.YtoceeegdbnigeaaDoorPlain
set_option linter.unusedVariables false
namespace Go.Proofs.YtoceeegdbnigeaaDoor
open Go Go.RowKit

theorem lit_u16 {a : Int} (h : (Lit.int .u16 a).wf = true) : 0 ≤ a ∧ a < 65536 := by
  have e1 : IntKind.u16.min = 0 := rfl
  have e2 : IntKind.u16.max = 65535 := rfl
  have := h
  simp [Lit.wf, e1, e2] at this
  omega
theorem lit_u32 {a : Int} (h : (Lit.int .u32 a).wf = true) : 0 ≤ a ∧ a < 4294967296 := by
  have e1 : IntKind.u32.min = 0 := rfl
  have e2 : IntKind.u32.max = 4294967295 := rfl
  have := h
  simp [Lit.wf, e1, e2] at this
  omega
end Go.Proofs.YtoceeegdbnigeaaDoor
