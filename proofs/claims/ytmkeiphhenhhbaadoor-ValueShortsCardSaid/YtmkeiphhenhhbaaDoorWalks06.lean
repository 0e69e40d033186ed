/-
  The walks of this seat's laws: each returns true and leaves old memory as it was.
  Conditions: the library's table of powers of ten reads as its initialiser lays it.
-/
import Derived.Test.YtmkeiphhenhhbaaDoorWorks06
set_option linter.unusedVariables false
namespace Go.Proofs.YtmkeiphhenhhbaaDoor
open Go Go.RowKit

theorem walkValueChecks (s : ByteArray) (ws : s.size ≤ maxLen) (n : Int) (hn : (Lit.int .i64 n).wf = true) (w : World) (ht : Tab w) :
    Calls Tryd.prog 3 #[.string s, .int .i64 n] w fun e w' => e = .returned (.bool true) ∧ Below w.heap.size w w' := by
  clear hn ws
  by_cases h : 2000 < s.size
  · go_enter Tryd.func3, Tryd.ntmps3
    go_wp2_with (go_at_call 13; refine (works_any _ ht).mono ?_; rintro e w1 ⟨rfl, b1⟩)
    go_ret
    exact ⟨rfl, b1⟩
  · go_enter Tryd.func3, Tryd.ntmps3
    go_wp2_with fail
    refine (keeps (vcheck_any s n _)).mono ?_
    rintro e w1 ⟨rfl, rfl⟩
    go_wp2_with fail
    refine (keeps (rcheck_any s n _)).mono ?_
    rintro e w1 ⟨rfl, rfl⟩
    go_wp2_with (go_at_call 13; refine (works_any _ ht).mono ?_; rintro e w1 ⟨rfl, b1⟩)
    go_ret
    exact ⟨rfl, b1⟩

theorem walkValueTexts (s : ByteArray) (ws : s.size ≤ maxLen) (t : ByteArray) (wt : t.size ≤ maxLen) (w : World) (ht : Tab w) :
    Calls Tryd.prog 4 #[.string s, .string t] w fun e w' => e = .returned (.bool true) ∧ Below w.heap.size w w' := by
  unfold maxLen at ws wt
  by_cases h : 2000 < s.size
  · go_enter Tryd.func4, Tryd.ntmps4
    go_wp2_with (go_at_call 13; refine (works_any _ ht).mono ?_; rintro e w1 ⟨rfl, b1⟩)
    go_ret
    exact ⟨rfl, b1⟩
  · by_cases h' : 2000 < t.size
    · go_enter Tryd.func4, Tryd.ntmps4
      go_wp2_with (go_at_call 13; refine (works_any _ ht).mono ?_; rintro e w1 ⟨rfl, b1⟩)
      go_ret
      exact ⟨rfl, b1⟩
    · go_enter Tryd.func4, Tryd.ntmps4
      go_wp2_with fail
      refine (vtext_any s _).mono ?_
      rintro e w1 ⟨rfl, b1⟩
      go_wp2_with fail
      refine (rtext_any s _).mono ?_
      rintro e w2 ⟨rfl, b2⟩
      have c2 := b1.trans (b2.mono b1.size); clear b1 b2
      go_wp2_with fail
      refine (vparse_any t _ (by omega)).mono ?_
      rintro e w3 ⟨rfl, b3⟩
      have c3 := c2.trans (b3.mono c2.size); clear c2 b3
      go_wp2_with fail
      refine (rparse_any t _ (by omega)).mono ?_
      rintro e w4 ⟨rfl, b4⟩
      have c4 := c3.trans (b4.mono c3.size); clear c3 b4
      go_wp2_with fail
      refine (works_any _ (ht.below c4)).mono ?_
      rintro e w5 ⟨rfl, b5⟩
      have c5 := c4.trans (b5.mono c4.size); clear c4 b5
      go_wp2_with fail
      go_ret
      exact ⟨rfl, c5⟩

theorem walkValueRepeats (s : ByteArray) (ws : s.size ≤ maxLen) (n : Int) (hn : (Lit.int .i64 n).wf = true) (w : World) (ht : Tab w) :
    Calls Tryd.prog 5 #[.string s, .int .i64 n] w fun e w' => e = .returned (.bool true) ∧ Below w.heap.size w w' := by
  clear hn
  unfold maxLen at ws
  by_cases h : 2000 < s.size
  · go_enter Tryd.func5, Tryd.ntmps5
    go_wp2_with (go_at_call 13; refine (works_any _ ht).mono ?_; rintro e w1 ⟨rfl, b1⟩)
    go_ret
    exact ⟨rfl, b1⟩
  · go_enter Tryd.func5, Tryd.ntmps5
    go_wp2_with fail
    refine (vrepeat_any s n _).mono ?_
    rintro e w1 ⟨rfl, b1⟩
    go_wp2_with fail
    refine (rrepeat_any s n _).mono ?_
    rintro e w2 ⟨rfl, b2⟩
    have c2 := b1.trans (b2.mono b1.size); clear b1 b2
    go_wp2_with fail
    refine (works_any _ (ht.below c2)).mono ?_
    rintro e w3 ⟨rfl, b3⟩
    have c3 := c2.trans (b3.mono c2.size); clear c2 b3
    go_wp2_with fail
    go_ret
    exact ⟨rfl, c3⟩

theorem walkValueShorts (s : ByteArray) (ws : s.size ≤ maxLen) (w : World) (ht : Tab w) :
    Calls Tryd.prog 6 #[.string s] w fun e w' => e = .returned (.bool true) ∧ Below w.heap.size w w' := by
  unfold maxLen at ws
  by_cases h : 2000 < s.size
  · go_enter Tryd.func6, Tryd.ntmps6
    go_wp2_with (go_at_call 13; refine (works_any _ ht).mono ?_; rintro e w1 ⟨rfl, b1⟩)
    go_ret
    exact ⟨rfl, b1⟩
  · go_enter Tryd.func6, Tryd.ntmps6
    go_wp2_with fail
    refine (vshort_any s _ ht (by omega)).mono ?_
    rintro e w1 ⟨rfl, b1⟩
    go_wp2_with fail
    refine (rshort_any s _ (by omega)).mono ?_
    rintro e w2 ⟨rfl, b2⟩
    have c2 := b1.trans (b2.mono b1.size); clear b1 b2
    go_wp2_with fail
    refine (works_any _ (ht.below c2)).mono ?_
    rintro e w3 ⟨rfl, b3⟩
    have c3 := c2.trans (b3.mono c2.size); clear c2 b3
    go_wp2_with fail
    go_ret
    exact ⟨rfl, c3⟩
end Go.Proofs.YtmkeiphhenhhbaaDoor
