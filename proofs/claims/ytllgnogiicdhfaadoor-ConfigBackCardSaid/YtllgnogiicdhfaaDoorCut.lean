/-
  Slices of strings, by natural numbers.
  Conditions: the bounds are in range.
-/
import Derived.Test.YtllgnogiicdhfaaDoorProg
import Derived.Test.YtllgnogiicdhfaaDoorPlain01
import Derived.WalkLawsBesides
import Derived.WalkSpells
set_option linter.unusedVariables false
namespace Go.Proofs.YtllgnogiicdhfaaDoor
open Go Go.RowKit

theorem run_slice_str {P : Program} (s : ByteArray) (t : TypeId) (ht : P.underlying t = some .string) (x y : Int) (i j : Nat) (hx : x = (i : Int)) (hy : y = (j : Int)) (hij : i ≤ j) (hj : j ≤ s.size) (wx : World) :
    (Instr.slice t (.string s) (some (.int .i64 x)) (some (.int .i64 y)) none).run P wx = .ok (.string (s.extract i j)) wx := by
  subst hx hy
  have h1 : (i : Int) ≤ (j : Int) := by omega
  have h2 : (j : Int) ≤ (s.size : Int) := by omega
  simp [Instr.slice, run_underlying ht, Instr.sliceBounds, run_sliceBound, h1, h2]
theorem str_app1 (x y : UInt8) : (⟨#[x]⟩ ++ ⟨#[y]⟩ : ByteArray).toList = [x, y] := by
  rw [ByteArray.toList_eq, show (⟨#[x]⟩ : ByteArray) = ⟨[x].toArray⟩ from rfl, show (⟨#[y]⟩ : ByteArray) = ⟨[y].toArray⟩ from rfl, str_append]
  rfl
theorem extract_two (s : ByteArray) (i : Nat) (h : i + 2 ≤ s.size) : s.extract i (i + 2) = ⟨[s.data.toList.getD i 0, s.data.toList.getD (i + 1) 0].toArray⟩ := by
  have e : (s.extract i (i + 2)).data.toList = [s.data.toList.getD i 0, s.data.toList.getD (i + 1) 0] := by
    have hb : ∀ n, n < s.size → n < s.data.size := fun n hn => hn
    have hlen : s.data.toList.length = s.size := Array.length_toList
    apply List.ext_getElem
    · simp
      have : s.data.size = s.size := rfl
      omega
    · intro n h1 h2
      simp at h2
      match n, h2 with
      | 0, _ =>
        simp [List.getD]
        rw [Array.getElem?_eq_getElem (hb i (by omega))]
        rfl
      | 1, _ =>
        simp [List.getD]
        rw [Array.getElem?_eq_getElem (hb (i + 1) (by omega))]
        rfl
  rw [← e, str_back]
end Go.Proofs.YtllgnogiicdhfaaDoor
