/-
  Configurations: what the words of the policies are, and the first part of Text.
  Conditions: the library's table lies in the world.
-/
import Derived.Test.YtllgnogiicdhfaaDoorCfg4
import Derived.Test.YtllgnogiicdhfaaDoorDigits
import Derived.Maps.AppendAt
set_option linter.unusedVariables false
namespace Go.Proofs.YtllgnogiicdhfaaDoor
open Go Go.RowKit

abbrev greedyS : ByteArray := ⟨#[103, 114, 101, 101, 100, 121]⟩
abbrev benefitS : ByteArray := ⟨#[98, 101, 110, 101, 102, 105, 116]⟩
/-- The three words in memory. -/
def WordsAt (w : World) (B : Nat) : Prop := w.cell? ⟨B, 0, none⟩ = some (.string ⟨#[]⟩) ∧ w.cell? ⟨B, 1, none⟩ = some (.string greedyS) ∧ w.cell? ⟨B, 2, none⟩ = some (.string benefitS)
theorem words_any (w : World) :
    Calls Tryd.prog 41 #[] w fun e w' => e = .returned (.slice (some ⟨w.heap.size, 0, none⟩) 3 3) ∧ WordsAt w' w.heap.size ∧ Below w.heap.size w w' := by
  go_enter Tryd.func41, Tryd.ntmps41
  go_wp2_with fail
  go_ret
  have hh := heap_alloc_new w (.cells #[.string ⟨#[]⟩, .string greedyS, .string benefitS] 9)
  exact ⟨rfl, ⟨by rw [Lib.cell_of_heap hh]; rfl, by rw [Lib.cell_of_heap hh]; rfl, by rw [Lib.cell_of_heap hh]; rfl⟩, (Below.refl _ _).alloc (Nat.le_refl _) _⟩
theorem infoStr : (Tryd.prog.info? 9).map (fun i => (i.zero, i.size, i.bytes)) = some (some (.string ⟨#[]⟩), 1, 16) := by kernel_rfl
def strCellsL (l : List ByteArray) : List Value := l.map Value.string
theorem strCellsL_snoc (l : List ByteArray) (x : ByteArray) : strCellsL l ++ [Value.string x] = strCellsL (l ++ [x]) := by simp [strCellsL]
theorem of_any (S Z R W K V P : Int) (w : World) :
    Calls Tryd.prog 39 #[cfgV S Z R W K V P] w fun e w' => e = .returned (.agg #[.int .i64 S, .int .i64 Z, .int .i64 R, .int .i64 W, .int .i64 K, .int .i64 V]) ∧ Below w.heap.size w w' := by
  go_enter Tryd.func39, Tryd.ntmps39
  go_wp2_with fail
  refine bodyPost_ret (v := .agg #[.int .i64 S, .int .i64 Z, .int .i64 R, .int .i64 W, .int .i64 K, .int .i64 V]) (by simp [results, Tryd.results39, go_sem]) rfl ⟨rfl, ?_⟩
  exact ((Below.refl _ _).alloc (Nat.le_refl _) _).alloc (by simp) _
set_option maxRecDepth 100000 in
/-- The number at a place of the array of the fields. -/
theorem run_idx6 (S Z R W K V : Int) (i : Nat) (hi : i < 6) (wx : World) :
    (Instr.index 58 (.agg #[.int .i64 S, .int .i64 Z, .int .i64 R, .int .i64 W, .int .i64 K, .int .i64 V]) (.int .i64 (i : Int))).run Tryd.prog wx = .ok (.int .i64 ([S, Z, R, W, K, V].getD i 0)) wx := by
  match i, hi with
  | 0, _ => rfl
  | 1, _ => rfl
  | 2, _ => rfl
  | 3, _ => rfl
  | 4, _ => rfl
  | 5, _ => rfl
end Go.Proofs.YtllgnogiicdhfaaDoor
