/-
  The walks of KeyChecks, KeyOrders and KeyNexts.
  Conditions: the library's table lies in the world.
-/
import Derived.Test.YthmbcjladgnigaaDoorWorks05
set_option linter.unusedVariables false
namespace Go.Proofs.YthmbcjladgnigaaDoor
open Go Go.RowKit

set_option maxHeartbeats 2000000 in
theorem walkKeyChecks (s : ByteArray) (hs : s.size ≤ maxLen) (m : Int) (hm : (Lit.int .i64 m).wf = true) (w : World) (ht : Tab w) :
    Calls Tryd.prog 3 #[.string s, .int .i64 m] w fun e w' => e = .returned (.bool true) ∧ Below w.heap.size w w' := by
  have HT := Lib.hid ht; clear ht hs hm
  have c1 := Below.refl w.heap.size w
  by_cases h1 : 1000 < s.size
  · have d1 : decide ((1000 : Int) < (s.size : Int)) = true := by rw [decide_eq_true_iff]; omega
    clear h1
    go_enter Tryd.func3, Tryd.ntmps3
    go_wp2_with fail
    refine (works_any _ (HT.out.below c1)).mono ?_
    rintro e w101 ⟨rfl, b1⟩
    have c2 := c1.trans (b1.mono c1.size); clear c1 b1
    have c1 := c2; clear c2
    go_wp2_with fail
    go_ret
    exact ⟨rfl, c1⟩
  · have d1 : decide ((1000 : Int) < (s.size : Int)) = false := by rw [decide_eq_false_iff_not]; omega
    have HS : Hid (s.size ≤ 1099511627776) := by show s.size ≤ 1099511627776; omega
    obtain ⟨x, hx⟩ : ∃ x, keyV s.data.toList = x := ⟨_, rfl⟩
    obtain ⟨y, hy⟩ : ∃ y, kfitsV s.data.toList m = y := ⟨_, rfl⟩
    have HX := Lib.hid hx
    have HY := Lib.hid hy
    clear h1 hx hy
    go_enter Tryd.func3, Tryd.ntmps3
    go_wp2_with fail
    refine (kcheck_is s x HS.out HX.out _).mono ?_
    rintro e w102 ⟨rfl, b1⟩
    have c2 := c1.trans (b1.mono c1.size); clear c1 b1
    have c1 := c2; clear c2
    go_wp2_with fail
    refine (rkcheck_any s HS.out _).mono ?_
    rw [HX.out]
    rintro e w103 ⟨rfl, rfl⟩
    go_wp2_with fail
    refine (kfits_is s m y HS.out HY.out _).mono ?_
    rintro e w104 ⟨rfl, b1⟩
    have c2 := c1.trans (b1.mono c1.size); clear c1 b1
    have c1 := c2; clear c2
    go_wp2_with fail
    refine (rkfits_any s HS.out m _).mono ?_
    rw [HY.out]
    rintro e w105 ⟨rfl, rfl⟩
    go_wp2_with fail
    refine (works_any _ (HT.out.below c1)).mono ?_
    rintro e w106 ⟨rfl, b1⟩
    have c2 := c1.trans (b1.mono c1.size); clear c1 b1
    have c1 := c2; clear c2
    go_wp2_with fail
    go_ret
    exact ⟨rfl, c1⟩

set_option maxHeartbeats 2000000 in
theorem walkKeyOrders (a : ByteArray) (ha : a.size ≤ maxLen) (b : ByteArray) (hb : b.size ≤ maxLen) (w : World) (ht : Tab w) :
    Calls Tryd.prog 4 #[.string a, .string b] w fun e w' => e = .returned (.bool true) ∧ Below w.heap.size w w' := by
  have HT := Lib.hid ht; clear ht ha hb
  have c1 := Below.refl w.heap.size w
  by_cases h1 : 1000 < a.size ∨ 1000 < b.size
  · have hd : decide ((1000 : Int) < (a.size : Int)) = true ∨ (decide ((1000 : Int) < (a.size : Int)) = false ∧ decide ((1000 : Int) < (b.size : Int)) = true) := by
      by_cases h2 : 1000 < a.size
      · exact Or.inl (by rw [decide_eq_true_iff]; omega)
      · exact Or.inr ⟨by rw [decide_eq_false_iff_not]; omega, by rw [decide_eq_true_iff]; omega⟩
    clear h1
    rcases hd with d1 | ⟨d1, d2⟩
    all_goals
      go_enter Tryd.func4, Tryd.ntmps4
      go_wp2_with fail
      refine (works_any _ (HT.out.below c1)).mono ?_
      rintro e w107 ⟨rfl, b1⟩
      have c2 := c1.trans (b1.mono c1.size); clear c1 b1
      have c1 := c2; clear c2
      go_wp2_with fail
      go_ret
      exact ⟨rfl, c1⟩
  · have d1 : decide ((1000 : Int) < (a.size : Int)) = false := by rw [decide_eq_false_iff_not]; omega
    have d2 : decide ((1000 : Int) < (b.size : Int)) = false := by rw [decide_eq_false_iff_not]; omega
    have HS : Hid (a.size ≤ 1099511627776 ∧ b.size ≤ 1099511627776) := by show a.size ≤ 1099511627776 ∧ b.size ≤ 1099511627776; omega
    obtain ⟨x, hx⟩ : ∃ x, Lib.compareBytes a.data.toList b.data.toList = x := ⟨_, rfl⟩
    obtain ⟨y, hy⟩ : ∃ y, commonL a.data.toList b.data.toList = y := ⟨_, rfl⟩
    have HX := Lib.hid hx
    have HY := Lib.hid hy
    clear h1 hx hy
    go_enter Tryd.func4, Tryd.ntmps4
    go_wp2_with fail
    refine (korder_is a b x HX.out _).mono ?_
    rintro e w108 ⟨rfl, rfl⟩
    go_wp2_with fail
    refine (rkorder_any a b HS.out.1 HS.out.2 _).mono ?_
    rw [HX.out]
    rintro e w109 ⟨rfl, b1⟩
    have c2 := c1.trans (b1.mono c1.size); clear c1 b1
    have c1 := c2; clear c2
    go_wp2_with fail
    refine (kcommon_is a b y (y : Int) rfl HS.out.1 HS.out.2 HY.out _).mono ?_
    rintro e w110 ⟨rfl, b1⟩
    have c2 := c1.trans (b1.mono c1.size); clear c1 b1
    have c1 := c2; clear c2
    go_wp2_with fail
    refine (rkcommon_any a b HS.out.1 HS.out.2 _).mono ?_
    rw [HY.out]
    rintro e w111 ⟨rfl, b1⟩
    have c2 := c1.trans (b1.mono c1.size); clear c1 b1
    have c1 := c2; clear c2
    go_wp2_with fail
    refine (works_any _ (HT.out.below c1)).mono ?_
    rintro e w112 ⟨rfl, b1⟩
    have c2 := c1.trans (b1.mono c1.size); clear c1 b1
    have c1 := c2; clear c2
    go_wp2_with fail
    go_ret
    exact ⟨rfl, c1⟩

set_option maxHeartbeats 2000000 in
theorem walkKeyNexts (s : ByteArray) (hs : s.size ≤ maxLen) (n : Int) (hn : (Lit.int .i64 n).wf = true) (w : World) (ht : Tab w) :
    Calls Tryd.prog 5 #[.string s, .int .i64 n] w fun e w' => e = .returned (.bool true) ∧ Below w.heap.size w w' := by
  have HT := Lib.hid ht; clear ht hs hn
  have c1 := Below.refl w.heap.size w
  by_cases h1 : 1000 < s.size
  · have d1 : decide ((1000 : Int) < (s.size : Int)) = true := by rw [decide_eq_true_iff]; omega
    clear h1
    go_enter Tryd.func5, Tryd.ntmps5
    go_wp2_with fail
    refine (works_any _ (HT.out.below c1)).mono ?_
    rintro e w113 ⟨rfl, b1⟩
    have c2 := c1.trans (b1.mono c1.size); clear c1 b1
    have c1 := c2; clear c2
    go_wp2_with fail
    go_ret
    exact ⟨rfl, c1⟩
  · have d1 : decide ((1000 : Int) < (s.size : Int)) = false := by rw [decide_eq_false_iff_not]; omega
    have HS : Hid (s.size ≤ 1099511627776) := by show s.size ≤ 1099511627776; omega
    obtain ⟨A, p, hx⟩ : ∃ (A : ByteArray) (p : Bool), nextV s.data.toList = (A.data.toList, p) := ⟨⟨(nextV s.data.toList).1.toArray⟩, (nextV s.data.toList).2, rfl⟩
    obtain ⟨B, e2, hy⟩ : ∃ (B : ByteArray) (e2 : Int), nameV n = (B.data.toList, e2) := ⟨⟨(nameV n).1.toArray⟩, (nameV n).2, rfl⟩
    have HX := Lib.hid hx
    have HY := Lib.hid hy
    clear h1 hx hy
    go_enter Tryd.func5, Tryd.ntmps5
    go_wp2_with fail
    refine (knext_is s A p HS.out HX.out _).mono ?_
    rintro e w114 ⟨rfl, b1⟩
    have c2 := c1.trans (b1.mono c1.size); clear c1 b1
    have c1 := c2; clear c2
    go_wp2_with fail
    refine (rknext_any s HS.out _).mono ?_
    rw [HX.out]
    simp only [str_back]
    rintro e w115 ⟨rfl, b1⟩
    have c2 := c1.trans (b1.mono c1.size); clear c1 b1
    have c1 := c2; clear c2
    go_wp2_with fail
    refine (kname_is n B e2 HY.out _ (HT.out.below c1)).mono ?_
    rintro e w116 ⟨rfl, b1⟩
    have c2 := c1.trans (b1.mono c1.size); clear c1 b1
    have c1 := c2; clear c2
    go_wp2_with fail
    refine (rkname_any n _).mono ?_
    rw [HY.out]
    simp only [str_back]
    rintro e w117 ⟨rfl, rfl⟩
    go_wp2_with fail
    refine (works_any _ (HT.out.below c1)).mono ?_
    rintro e w118 ⟨rfl, b1⟩
    have c2 := c1.trans (b1.mono c1.size); clear c1 b1
    have c1 := c2; clear c2
    go_wp2_with fail
    go_ret
    exact ⟨rfl, c1⟩
end Go.Proofs.YthmbcjladgnigaaDoor
