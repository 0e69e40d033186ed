/-
  The walks of the chapter's statements: numbers and strings.
  Conditions: the library's table lies in the world.
-/
import Derived.Test.YtmfdfpebbnagfaaDoorWorks01
import Derived.Test.YtmfdfpebbnagfaaDoorRef01b
import Derived.Test.YtmfdfpebbnagfaaDoorRef01c
import Derived.Test.YtmfdfpebbnagfaaDoorRef01f
import Derived.Test.YtmfdfpebbnagfaaDoorRef01g
set_option linter.unusedVariables false
namespace Go.Proofs.YtmfdfpebbnagfaaDoor
open Go Go.RowKit

set_option maxHeartbeats 2000000 in
theorem walkCodecDigits (n : Int) (hn : (Lit.int .u64 n).wf = true) (s : ByteArray) (hs : s.size ≤ maxLen) (w : World) (ht : Tab w) :
    Calls Tryd.prog 5 #[.int .u64 n, .string s] w fun e w' => e = .returned (.bool true) ∧ Below w.heap.size w w' := by
  have hn2 : 0 ≤ n ∧ n < 18446744073709551616 := by have e1 : IntKind.u64.min = 0 := rfl; have e2 : IntKind.u64.max = 18446744073709551615 := rfl; simp [Lit.wf, e1, e2] at hn; omega
  obtain ⟨u, rfl⟩ : ∃ u : Nat, n = (u : Int) := ⟨n.toNat, by omega⟩
  have HU : Hid (u < 18446744073709551616) := by show u < _; omega
  have HT := Lib.hid ht; clear ht hn hn2 hs
  by_cases h1 : 1000 < s.size
  · have d1 : decide ((1000 : Int) < (s.size : Int)) = true := by rw [decide_eq_true_iff]; omega
    clear h1
    go_enter Tryd.func5, Tryd.ntmps5
    go_wp2_with fail
    refine (works_any _ HT.out).mono ?_
    rintro e w1 ⟨rfl, b1⟩
    go_wp2_with fail
    go_ret
    exact ⟨rfl, b1⟩
  · have d1 : decide ((1000 : Int) < (s.size : Int)) = false := by rw [decide_eq_false_iff_not]; omega
    have HS : Hid (s.size ≤ 1000) := by show s.size ≤ 1000; omega
    clear h1
    go_enter Tryd.func5, Tryd.ntmps5
    go_wp2_with fail
    refine (parseDigits_any s _ (by have := HS.out; omega) HT.out).mono ?_
    obtain ⟨a, x, hax⟩ : ∃ a x, digV s.data.toList = (a, x) := ⟨_, _, rfl⟩
    have HAX := Lib.hid hax
    rw [hax]
    clear hax
    rintro e w1 ⟨rfl, c1⟩
    go_wp2_with fail
    refine (keeps (rparseDigits_any s _ (by have := HS.out; omega))).mono ?_
    rw [HAX.out]
    rintro e w2 ⟨rfl, rfl⟩
    go_wp2_with fail
    refine (digits_any u HU.out _ (HT.out.below c1)).mono ?_
    obtain ⟨D, hD⟩ : ∃ D : ByteArray, (⟨(Lib.decDigits u).toArray⟩ : ByteArray) = D := ⟨_, rfl⟩
    have HD := Lib.hid hD
    rw [hD]
    clear hD
    rintro e w3 ⟨rfl, b1⟩
    have c2 := c1.trans (b1.mono c1.size); clear c1 b1
    go_wp2_with fail
    refine (keeps (rdigits01_any (u + 1) u _ (Nat.lt_succ_self u) HU.out)).mono ?_
    rw [HD.out]
    rintro e w4 ⟨rfl, rfl⟩
    go_wp2_with fail
    refine (works_any _ (HT.out.below c2)).mono ?_
    rintro e w5 ⟨rfl, b1⟩
    have c1 := c2.trans (b1.mono c2.size); clear c2 b1
    go_wp2_with fail
    go_ret
    exact ⟨rfl, c1⟩
end Go.Proofs.YtmfdfpebbnagfaaDoor
