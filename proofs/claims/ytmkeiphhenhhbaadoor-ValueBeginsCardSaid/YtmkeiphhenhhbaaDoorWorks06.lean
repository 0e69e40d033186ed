/-
  The examples of the chapter hold: works returns true.
  Conditions: the library's table of powers of ten reads as its initialiser lays it.
-/
import Derived.Test.YtmkeiphhenhhbaaDoorValue
import Derived.Test.YtmkeiphhenhhbaaDoorBuild
import Derived.Test.YtmkeiphhenhhbaaDoorRef06b
set_option linter.unusedVariables false
namespace Go.Proofs.YtmkeiphhenhhbaaDoor
open Go Go.RowKit

theorem vtext_at (s : ByteArray) (r : List UInt8) (x : Int) (w : World) (h : textV s.data.toList = (r, x)) :
    Calls Tryd.prog 16 #[.string s] w fun e w' => e = .returned (.tuple #[.string ⟨r.toArray⟩, .int .i64 x]) ∧ Below w.heap.size w w' := by
  have := vtext_any s w; rw [h] at this; exact this
theorem vparse_at (s : ByteArray) (r : List UInt8) (x : Int) (w : World) (hl : s.size ≤ 35184372088832) (h : parseV s.data.toList = (r, x)) :
    Calls Tryd.prog 18 #[.string s] w fun e w' => e = .returned (.tuple #[.string ⟨r.toArray⟩, .int .i64 x]) ∧ Below w.heap.size w w' := by
  have := vparse_any s w hl; rw [h] at this; exact this
theorem vrepeat_at (s : ByteArray) (n : Int) (r : List UInt8) (x : Int) (w : World) (h : repeatV s.data.toList n = (r, x)) :
    Calls Tryd.prog 20 #[.string s, .int .i64 n] w fun e w' => e = .returned (.tuple #[.string ⟨r.toArray⟩, .int .i64 x]) ∧ Below w.heap.size w w' := by
  have := vrepeat_any s n w; rw [h] at this; exact this
theorem vshort_at (s : ByteArray) (r : List UInt8) (w : World) (ht : Tab w) (hl : s.size ≤ 35184372088832) (h : shortV s.data.toList = r) :
    Calls Tryd.prog 22 #[.string s] w fun e w' => e = .returned (.string ⟨r.toArray⟩) ∧ Below w.heap.size w w' := by
  have := vshort_any s w ht hl; rw [h] at this; exact this
theorem vcheck_at (s : ByteArray) (n x : Int) (w : World) (h : checkV s.size n = x) :
    Calls Tryd.prog 14 #[.string s, .int .i64 n] w fun e w' => e = .returned (.int .i64 x) ∧ w = w' := by
  have := keeps (vcheck_any s n w); rw [h] at this; exact this
theorem short9 : shortV [97, 97, 97, 97, 97, 97, 97, 97, 97] = [57, 58, 54, 49, 54, 49, 54, 49, 54, 49, 54, 49, 54, 49, 54, 49, 54, 49, 46, 46] := by
  unfold shortV
  have h9 : Lib.itoa (([97, 97, 97, 97, 97, 97, 97, 97, 97] : List UInt8).length : Int) = [57] := by rw [itoa_nat, Lib.decDigits, dif_pos (by decide)]; rfl
  rw [h9]; decide

set_option maxHeartbeats 1000000 in
theorem works_any (w : World) (ht : Tab w) :
    Calls Tryd.prog 13 #[] w fun e w' => e = .returned (.bool true) ∧ Below w.heap.size w w' := by
  go_enter Tryd.func13, Tryd.ntmps13
  go_wp2_with fail
  refine (vtext_at ⟨#[97, 98]⟩ [54, 49, 54, 50] 0 _ (by decide)).mono ?_
  rintro e w1 ⟨rfl, b1⟩
  go_wp2_with fail
  refine (vtext_at ⟨#[]⟩ [45] 0 _ (by decide)).mono ?_
  rintro e w2 ⟨rfl, b2⟩
  have c2 := b1.trans (b2.mono b1.size); clear b1 b2
  go_wp2_with fail
  refine (vparse_at ⟨#[48, 48, 102, 102]⟩ [0, 255] 0 _ (by decide) (by decide)).mono ?_
  rintro e w3 ⟨rfl, b3⟩
  have c3 := c2.trans (b3.mono c2.size); clear c2 b3
  go_wp2_with fail
  refine (vparse_at ⟨#[54, 65]⟩ [] 8 _ (by decide) (by decide)).mono ?_
  rintro e w4 ⟨rfl, b4⟩
  have c4 := c3.trans (b4.mono c3.size); clear c3 b4
  go_wp2_with fail
  refine (vrepeat_at ⟨#[97, 98, 99]⟩ 7 [97, 98, 99, 97, 98, 99, 97] 0 _ (by decide)).mono ?_
  rintro e w5 ⟨rfl, b5⟩
  have c5 := c4.trans (b5.mono c4.size); clear c4 b5
  go_wp2_with fail
  refine (vcheck_at ⟨#[97, 98]⟩ 1 12 _ (by decide)).mono ?_
  rintro e w' ⟨rfl, rfl⟩
  go_wp2_with fail
  refine (vshort_at ⟨#[97, 97, 97, 97, 97, 97, 97, 97, 97]⟩ _ _ (ht.below c5) (by decide) short9).mono ?_
  rintro e w6 ⟨rfl, b6⟩
  have c6 := c5.trans (b6.mono c5.size); clear c5 b6
  go_wp2_with fail
  go_ret
  exact ⟨rfl, c6⟩
end Go.Proofs.YtmkeiphhenhhbaaDoor
