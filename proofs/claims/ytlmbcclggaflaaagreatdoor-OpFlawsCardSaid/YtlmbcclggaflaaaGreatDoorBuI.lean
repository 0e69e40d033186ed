/-
  OpFlaws: the walk.
  Conditions: as each theorem says (bytes: at most 100,000; the library's tables and variables lie in the world).
-/
import Derived.Test.YtlmbcclggaflaaaGreatDoorBuG
import Derived.Test.YtlmbcclggaflaaaGreatDoorBuF
import Derived.Test.YtlmbcclggaflaaaGreatDoorBuE
import Derived.Test.YtlmbcclggaflaaaGreatDoorBuH
set_option linter.unusedVariables false
namespace Go.Proofs.YtlmbcclggaflaaaGreatDoor
open Go Go.RowKit

theorem rep_any (c : UInt8) (n : Nat) (h2 : 2 ≤ n) (hn : n ≤ 100000) (w : World) : Calls Tryz.prog 14 #[.string ⟨#[c]⟩, .int .i64 n] w fun e w' => e = .returned (.string ⟨(Lib.repeatL [c] n).toArray⟩) ∧ Below w.heap.size w w' :=
  Tryz.strings_Repeat_main ⟨#[c]⟩ n w h2 (by omega) (by show 1 * n ≤ _; omega) (by show 0 < 1; omega)
/-- What the changed operation is. -/
def FlawAt (w : World) (B : Nat) : Prop := ∃ k a b x v, OpBox w B k a b x v ∧ ¬ opGood ⟨k, a, b, x, v⟩ ∧ opFit ⟨k, a, b, x, v⟩
theorem flaw_set {w w2 : World} {C : Nat} {k a b : Int} {x v : ByteArray} (h : OpBox w2 C k a b x v) (hc : Below w.heap.size w w2) (hl : w.heap.size ≤ C) (j : Nat) (z : Value) : OpBox (w2.setCell ⟨C + 1, j, none⟩ z) C k a b x v ∧ Below w.heap.size w (w2.setCell ⟨C + 1, j, none⟩ z) :=
  ⟨h.block (Below.heap_setCell _ _ _ _ (by simp)), below_set hc _ (by omega) j z⟩
end Go.Proofs.YtlmbcclggaflaaaGreatDoor
