/-
  The walk of CodecHex.
  Conditions: the library's table lies in the world.
-/
import Derived.Test.YtmfdfpebbnagfaaDoorWorks01
import Derived.Test.YtmfdfpebbnagfaaDoorRef01d
import Derived.Test.YtmfdfpebbnagfaaDoorRef01f
set_option linter.unusedVariables false
namespace Go.Proofs.YtmfdfpebbnagfaaDoor
open Go Go.RowKit

set_option maxHeartbeats 4000000 in
theorem walkCodecHex (w : World) (v : Value) (l : List UInt8) (hv : BytesAt w v l) (s : ByteArray) (hs : s.size ≤ maxLen) (ht : Tab w) :
    Calls Tryd.prog 4 #[v, .string s] w fun e w' => e = .returned (.bool true) ∧ Below w.heap.size w w' := by
  have HT := Lib.hid ht; clear ht hs
  have HV := Lib.hid hv
  obtain ⟨p, c, rfl, hc, hp⟩ := hv
  clear hp
  by_cases h1 : 1000 < l.length ∨ 1000 < s.size
  · have hd : decide ((1000 : Int) < (l.length : Int)) = true ∨ (decide ((1000 : Int) < (l.length : Int)) = false ∧ decide ((1000 : Int) < (s.size : Int)) = true) := by
      by_cases h2 : 1000 < l.length
      · exact Or.inl (by rw [decide_eq_true_iff]; omega)
      · exact Or.inr ⟨by rw [decide_eq_false_iff_not]; omega, by rw [decide_eq_true_iff]; omega⟩
    clear h1
    rcases hd with d1 | ⟨d1, d2⟩
    all_goals
      go_enter Tryd.func4, Tryd.ntmps4
      go_wp2_with fail
      refine (works_any _ HT.out).mono ?_
      rintro e w1 ⟨rfl, b1⟩
      go_wp2_with fail
      go_ret
      exact ⟨rfl, b1⟩
  · have d1 : decide ((1000 : Int) < (l.length : Int)) = false := by rw [decide_eq_false_iff_not]; omega
    have d2 : decide ((1000 : Int) < (s.size : Int)) = false := by rw [decide_eq_false_iff_not]; omega
    have HS : Hid (s.size ≤ 1000 ∧ l.length ≤ 1000) := by show s.size ≤ 1000 ∧ l.length ≤ 1000; omega
    clear h1
    go_enter Tryd.func4, Tryd.ntmps4
    go_wp2_with fail
    refine (parseHex_any s _ (by have := HS.out; omega)).mono ?_
    rintro e w1 ⟨x1, x2, rfl, X, c1⟩
    go_wp2_with fail
    refine (rparseHex_any s _ (by have := HS.out; omega)).mono ?_
    rintro e w2 ⟨y1, y2, rfl, Y, b1⟩
    obtain ⟨t, k, X1, Y1, rfl, rfl⟩ : ∃ (t : List UInt8) (k : Int), BytesAt w2 x1 t ∧ BytesAt w2 y1 t ∧ x2 = .int .i64 k ∧ y2 = .int .i64 k := by
      rcases X with ⟨hn, rfl, rfl⟩ | ⟨t, hn, hx, rfl⟩ <;> rcases Y with ⟨hm, rfl, rfl⟩ | ⟨t', hm, hy, rfl⟩
      · exact ⟨[], 8, BytesAt.nil _ _ _, BytesAt.nil _ _ _, rfl, rfl⟩
      · rw [hn] at hm; cases hm
      · rw [hn] at hm; cases hm
      · rw [hn] at hm
        cases hm
        exact ⟨t, 0, hx.below b1, hy, rfl, rfl⟩
    have c2 := c1.trans (b1.mono c1.size); clear c1 b1 X Y
    go_wp2_with fail
    refine (hex_any _ l _ (HV.out.below c2) (by have := HS.out; omega)).mono ?_
    obtain ⟨D, hD⟩ : ∃ D : ByteArray, (⟨(hexL l).toArray⟩ : ByteArray) = D := ⟨_, rfl⟩
    have HD := Lib.hid hD
    rw [hD]
    clear hD
    rintro e w3 ⟨rfl, b1⟩
    have X2 := X1.below b1
    have Y2 := Y1.below b1
    have c1 := c2.trans (b1.mono c2.size); clear c2 b1 X1 Y1
    go_wp2_with fail
    refine (rhex01_any _ l _ (HV.out.below c1) (by have := HS.out; omega)).mono ?_
    rw [HD.out]
    rintro e w4 ⟨rfl, b1⟩
    have X1 := X2.below b1
    have Y1 := Y2.below b1
    have c2 := c1.trans (b1.mono c1.size); clear c1 b1 X2 Y2
    go_wp2_with fail
    refine (equal_is x1 y1 t t true _ X1 Y1 (beq_self_eq_true t)).mono ?_
    rintro e w5 ⟨rfl, rfl⟩
    clear X1 Y1
    go_wp2_with fail
    refine (works_any _ (HT.out.below c2)).mono ?_
    rintro e w6 ⟨rfl, b1⟩
    have c1 := c2.trans (b1.mono c2.size); clear c2 b1
    go_wp2_with fail
    go_ret
    exact ⟨rfl, c1⟩
end Go.Proofs.YtmfdfpebbnagfaaDoor
