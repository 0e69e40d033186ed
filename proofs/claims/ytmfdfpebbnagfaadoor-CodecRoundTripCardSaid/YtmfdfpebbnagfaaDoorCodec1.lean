/-
  What codec's widths, Fits and the library's slices.Clone at []byte compute.
  Conditions: at most 2^45 bytes; numbers below 2^64.
-/
import Derived.Test.YtmfdfpebbnagfaaDoorProg
import Derived.Test.YtmfdfpebbnagfaaDoorRef01
import Derived.Test.YtmfdfpebbnagfaaDoorBytes
import Derived.Test.YtmfdfpebbnagfaaDoorHex
import Derived.Test.YtmfdfpebbnagfaaDoorShelf
import Derived.WalkLawsBesides
import Derived.WalkSpells
import Derived.Deep.QuietTactic
import Derived.BigQuiet
import Derived.Outline
import Derived.Lib.Hide
set_option linter.unusedVariables false
namespace Go.Proofs.YtmfdfpebbnagfaaDoor
open Go Go.RowKit

theorem infoByte8 : (Tryd.prog.info? 5).map (fun i => (i.zero, i.size, i.bytes)) = some (some (.int .u8 0), 1, 1) := by kernel_rfl

/-- The world behind the list of the widths. -/
def widthsWorld (w : World) : World := w.alloc (.cells #[.int .i64 1, .int .i64 2, .int .i64 4, .int .i64 8] 3)
theorem widths_any (w : World) :
    Calls Tryd.prog 32 #[] w fun e w' => e = .returned (.slice (some ⟨w.heap.size, 0, none⟩) 4 4) ∧ widthsWorld w = w' := by
  go_enter Tryd.func32, Tryd.ntmps32
  go_wp2_with fail
  go_ret
  exact ⟨rfl, rfl⟩
theorem below_widths (w : World) : Below w.heap.size w (widthsWorld w) := (Below.refl _ _).alloc (Nat.le_refl _) _
theorem contains_width (w : World) (x : Int) :
    Calls Tryd.prog 31 #[.slice (some ⟨w.heap.size, 0, none⟩) 4 4, .int .i64 x] (widthsWorld w) fun e w' => e = .returned (.bool (isW x)) ∧ widthsWorld w = w' := by
  have h := Tryd.slices_Contains_int w.heap.size 0 4 4 [1, 2, 4, 8] x (widthsWorld w) (by decide) (by decide) (fun j hj => by
    have hh : (widthsWorld w).heap[w.heap.size]? = some (.cells #[.int .i64 1, .int .i64 2, .int .i64 4, .int .i64 8] 3) := by
      show (w.heap.push _)[w.heap.size]? = _
      simp
    rw [Lib.cell_of_heap hh]
    match j, hj with
    | 0, _ => rfl
    | 1, _ => rfl
    | 2, _ => rfl
    | 3, _ => rfl)
  have e : (([1, 2, 4, 8] : List Int).take 4).contains x = isW x := by
    unfold isW
    simp
  rw [e] at h
  exact keeps h

theorem fits_false (n : Int) (wd : Int) (w : World) (h : isW wd = false) :
    Calls Tryd.prog 18 #[.int .u64 n, .int .i64 wd] w fun e w' => e = .returned (.bool false) ∧ Below w.heap.size w w' := by
  have H := Lib.hid h; clear h
  go_enter Tryd.func18, Tryd.ntmps18
  go_wp2_with fail
  refine (widths_any w).mono ?_
  rintro e w1 ⟨rfl, rfl⟩
  go_wp2_with fail
  refine (contains_width w wd).mono ?_
  rw [H.out]
  rintro e w1 ⟨rfl, rfl⟩
  go_wp2_with fail
  go_ret
  exact ⟨rfl, below_widths w⟩

theorem fits_any (n : Nat) (wd : Int) (w : World) (hn : n < 256 ^ 8) :
    Calls Tryd.prog 18 #[.int .u64 (n : Int), .int .i64 wd] w fun e w' => e = .returned (.bool (fitsV n wd)) ∧ Below w.heap.size w w' := by
  have HN := Lib.hid hn
  rcases isW_cases wd with ⟨h1, _⟩ | ⟨h1, h2⟩
  · have e : fitsV n wd = false := by unfold fitsV; rw [h1]; rfl
    rw [e]
    exact fits_false n wd w h1
  · have H1 := Lib.hid h1; clear h1
    rcases h2 with rfl | rfl | rfl | rfl
    all_goals
      go_enter Tryd.func18, Tryd.ntmps18
      go_wp2_with fail
      refine (widths_any w).mono ?_
      rintro e w1 ⟨rfl, rfl⟩
      go_wp2_with fail
      refine (contains_width w _).mono ?_
      rw [H1.out]
      rintro e w1 ⟨rfl, rfl⟩
      clear hn
      go_wp2_with fail
      go_ret
    all_goals refine ⟨?_, below_widths w⟩
    · exact congrArg (fun b => Ending.returned (.bool b)) (fits_shr n 1 256 rfl H1.out)
    · exact congrArg (fun b => Ending.returned (.bool b)) (fits_shr n 2 65536 rfl H1.out)
    · exact congrArg (fun b => Ending.returned (.bool b)) (fits_shr n 4 4294967296 rfl H1.out)
    · exact congrArg (fun b => Ending.returned (.bool b)) (fits_wide n H1.out HN.out).symm
end Go.Proofs.YtmfdfpebbnagfaaDoor
