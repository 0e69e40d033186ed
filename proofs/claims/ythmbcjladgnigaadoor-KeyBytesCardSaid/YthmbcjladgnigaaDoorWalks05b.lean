/-
  The walk of KeySuccessor.
  Conditions: the library's table lies in the world.
-/
import Derived.Test.YthmbcjladgnigaaDoorWorks05
import Derived.Test.YthmbcjladgnigaaDoorKeyMade
import Derived.Test.YthmbcjladgnigaaDoorKeyQ
set_option linter.unusedVariables false
namespace Go.Proofs.YthmbcjladgnigaaDoor
open Go Go.RowKit

theorem made_is (v : Value) (l : List UInt8) (S : ByteArray) (h : S.data.toList = madeL l) (w : World) (hv : BytesAt w v l) :
    Calls Tryd.prog 24 #[v] w fun e w' => e = .returned (.string S) ∧ Below w.heap.size w w' := by
  have h2 := made_any v l w hv
  rw [← h, str_back] at h2
  exact h2
theorem str_beq (a b : ByteArray) (x : Bool) (h : (a.data.toList = b.data.toList) ↔ x = true) : (a.toList == b.toList) = x ∧ (a.toList != b.toList) = !x := by
  rw [ByteArray.toList_eq, ByteArray.toList_eq]
  cases x with
  | true => have := h.2 rfl; rw [this]; simp
  | false =>
    have : ¬ a.data.toList = b.data.toList := fun e => by have := h.1 e; cases this
    have e : (a.data.toList == b.data.toList) = false := by rw [beq_eq_false_iff_ne]; exact this
    exact ⟨e, by unfold bne; rw [e]⟩
theorem z32_list : z32.data.toList = List.replicate 32 122 := rfl

set_option maxRecDepth 100000 in
set_option maxHeartbeats 4000000 in
theorem walkKeySuccessor (w : World) (v1 : Value) (l1 : List UInt8) (hv1 : BytesAt w v1 l1) (v2 : Value) (l2 : List UInt8) (hv2 : BytesAt w v2 l2) (ht : Tab w) :
    Calls Tryd.prog 6 #[v1, v2] w fun e w' => e = .returned (.bool true) ∧ Below w.heap.size w w' := by
  have HT := Lib.hid ht
  have HV1 := Lib.hid hv1
  have HV2 := Lib.hid hv2
  clear ht hv1 hv2
  obtain ⟨S, hS⟩ : ∃ S : ByteArray, S.data.toList = madeL l1 := ⟨⟨(madeL l1).toArray⟩, rfl⟩
  obtain ⟨T, hT⟩ : ∃ T : ByteArray, T.data.toList = madeL l2 := ⟨⟨(madeL l2).toArray⟩, rfl⟩
  have HS := Lib.hid hS
  have HT2 := Lib.hid hT
  have kS : keyV S.data.toList = 0 := by rw [hS]; exact madeL_key l1
  have kT : keyV T.data.toList = 0 := by rw [hT]; exact madeL_key l2
  have HZ : Hid (S.size ≤ 1099511627776 ∧ T.size ≤ 1099511627776) := by
    have h1 := (keyV_zero kS).2.2
    have h2 := (keyV_zero kT).2.2
    rw [str_len] at h1 h2
    exact ⟨by omega, by omega⟩
  clear hS hT
  rcases next_tells kS with ⟨h1, h2, h3, h4, h5⟩ | ⟨h1, h2, h3⟩
  · obtain ⟨N, hN⟩ : ∃ N : ByteArray, nextV S.data.toList = (N.data.toList, true) := ⟨⟨(nextV S.data.toList).1.toArray⟩, by rw [← h1]⟩
    have HN := Lib.hid hN
    rw [hN] at h3 h4 h5
    simp only at h3 h4 h5
    have HN3 := Lib.hid h3
    have HN4 := Lib.hid h4
    have HN6 : Hid (Lib.compareBytes N.data.toList S.data.toList = 1) := by show _ = _; rw [cmp_swap, h4]; rfl
    have HNz : Hid (N.size ≤ 1099511627776) := by
      have h1 := (keyV_zero h3).2.2
      rw [str_len] at h1
      show N.size ≤ _
      omega
    obtain ⟨e1, e2⟩ := str_beq S z32 false (by rw [z32_list]; exact ⟨fun h => absurd h h2, fun h => by cases h⟩)
    have h6 := h5 _ kT
    obtain ⟨x, hx⟩ : ∃ x, Lib.compareBytes T.data.toList S.data.toList = x := ⟨_, rfl⟩
    obtain ⟨y, hy⟩ : ∃ y, Lib.compareBytes N.data.toList T.data.toList = y := ⟨_, rfl⟩
    rw [hx, hy] at h6
    have HX := Lib.hid hx
    have HY := Lib.hid hy
    have hd : decide (x ≤ 0) = true ∨ (decide (x ≤ 0) = false ∧ decide (y ≤ 0) = true) := by
      by_cases h : x ≤ 0
      · exact Or.inl (by rw [decide_eq_true_iff]; exact h)
      · exact Or.inr ⟨by rw [decide_eq_false_iff_not]; exact h, by rw [decide_eq_true_iff]; omega⟩
    clear h1 h2 h3 h4 h5 h6 hN hx hy kS kT
    rcases hd with d1 | ⟨d1, d2⟩
    · skip
      go_enter Tryd.func6, Tryd.ntmps6
      go_wp2_with fail
      refine (made_is _ l1 S HS.out _ HV1.out).mono ?_
      rintro e w1 ⟨rfl, c1⟩
      go_wp2_with fail
      refine (made_is _ l2 T HT2.out _ (HV2.out.below c1)).mono ?_
      rintro e w2 ⟨rfl, b1⟩
      have c2 := c1.trans (b1.mono c1.size); clear c1 b1
      have c1 := c2; clear c2
      go_wp2_with fail
      refine (knext_is S N true HZ.out.1 HN.out _).mono ?_
      rintro e w101 ⟨rfl, b1⟩
      have c2 := c1.trans (b1.mono c1.size); clear c1 b1
      have c1 := c2; clear c2
      go_wp2_with fail
      refine (repeat_is _ z32 32 _ rfl (by decide +kernel) (by decide) (by decide) _).mono ?_
      rintro e w102 ⟨rfl, b1⟩
      have c2 := c1.trans (b1.mono c1.size); clear c1 b1
      have c1 := c2; clear c2
      go_wp2_with fail
      refine (kcheck_is N 0 HNz.out HN3.out _).mono ?_
      rintro e w103 ⟨rfl, b1⟩
      have c2 := c1.trans (b1.mono c1.size); clear c1 b1
      have c1 := c2; clear c2
      go_wp2_with fail
      refine (korder_is S N (-1) HN4.out _).mono ?_
      rintro e w104 ⟨rfl, rfl⟩
      go_wp2_with fail
      refine (korder_is N S 1 HN6.out _).mono ?_
      rintro e w105 ⟨rfl, rfl⟩
      go_wp2_with fail
      refine (korder_is T S x HX.out _).mono ?_
      rintro e w106 ⟨rfl, rfl⟩
      go_wp2_with fail
      refine (works_any _ (HT.out.below c1)).mono ?_
      rintro e w107 ⟨rfl, b1⟩
      have c2 := c1.trans (b1.mono c1.size); clear c1 b1
      have c1 := c2; clear c2
      go_wp2_with fail
      go_ret
      exact ⟨rfl, c1⟩
    · skip
      go_enter Tryd.func6, Tryd.ntmps6
      go_wp2_with fail
      refine (made_is _ l1 S HS.out _ HV1.out).mono ?_
      rintro e w1 ⟨rfl, c1⟩
      go_wp2_with fail
      refine (made_is _ l2 T HT2.out _ (HV2.out.below c1)).mono ?_
      rintro e w2 ⟨rfl, b1⟩
      have c2 := c1.trans (b1.mono c1.size); clear c1 b1
      have c1 := c2; clear c2
      go_wp2_with fail
      refine (knext_is S N true HZ.out.1 HN.out _).mono ?_
      rintro e w108 ⟨rfl, b1⟩
      have c2 := c1.trans (b1.mono c1.size); clear c1 b1
      have c1 := c2; clear c2
      go_wp2_with fail
      refine (repeat_is _ z32 32 _ rfl (by decide +kernel) (by decide) (by decide) _).mono ?_
      rintro e w109 ⟨rfl, b1⟩
      have c2 := c1.trans (b1.mono c1.size); clear c1 b1
      have c1 := c2; clear c2
      go_wp2_with fail
      refine (kcheck_is N 0 HNz.out HN3.out _).mono ?_
      rintro e w110 ⟨rfl, b1⟩
      have c2 := c1.trans (b1.mono c1.size); clear c1 b1
      have c1 := c2; clear c2
      go_wp2_with fail
      refine (korder_is S N (-1) HN4.out _).mono ?_
      rintro e w111 ⟨rfl, rfl⟩
      go_wp2_with fail
      refine (korder_is N S 1 HN6.out _).mono ?_
      rintro e w112 ⟨rfl, rfl⟩
      go_wp2_with fail
      refine (korder_is T S x HX.out _).mono ?_
      rintro e w113 ⟨rfl, rfl⟩
      go_wp2_with fail
      refine (korder_is N T y HY.out _).mono ?_
      rintro e w114 ⟨rfl, rfl⟩
      go_wp2_with fail
      refine (works_any _ (HT.out.below c1)).mono ?_
      rintro e w115 ⟨rfl, b1⟩
      have c2 := c1.trans (b1.mono c1.size); clear c1 b1
      have c1 := c2; clear c2
      go_wp2_with fail
      go_ret
      exact ⟨rfl, c1⟩
  · have HN : Hid (nextV S.data.toList = ((⟨#[]⟩ : ByteArray).data.toList, false)) := h1
    obtain ⟨e1, e2⟩ := str_beq S z32 true (by rw [z32_list]; exact ⟨fun _ => rfl, fun _ => h2⟩)
    have h6 := h3 _ kT
    obtain ⟨x, hx⟩ : ∃ x, Lib.compareBytes T.data.toList S.data.toList = x := ⟨_, rfl⟩
    rw [hx] at h6
    have HX := Lib.hid hx
    have d1 : decide (x ≤ 0) = true := by rw [decide_eq_true_iff]; exact h6
    clear h1 h2 h3 h6 hx kS kT
    go_enter Tryd.func6, Tryd.ntmps6
    go_wp2_with fail
    refine (made_is _ l1 S HS.out _ HV1.out).mono ?_
    rintro e w1 ⟨rfl, c1⟩
    go_wp2_with fail
    refine (made_is _ l2 T HT2.out _ (HV2.out.below c1)).mono ?_
    rintro e w2 ⟨rfl, b1⟩
    have c2 := c1.trans (b1.mono c1.size); clear c1 b1
    have c1 := c2; clear c2
    go_wp2_with fail
    refine (knext_is S ⟨#[]⟩ false HZ.out.1 HN.out _).mono ?_
    rintro e w116 ⟨rfl, b1⟩
    have c2 := c1.trans (b1.mono c1.size); clear c1 b1
    have c1 := c2; clear c2
    go_wp2_with fail
    refine (repeat_is _ z32 32 _ rfl (by decide +kernel) (by decide) (by decide) _).mono ?_
    rintro e w117 ⟨rfl, b1⟩
    have c2 := c1.trans (b1.mono c1.size); clear c1 b1
    have c1 := c2; clear c2
    go_wp2_with fail
    refine (korder_is T S x HX.out _).mono ?_
    rintro e w118 ⟨rfl, rfl⟩
    go_wp2_with fail
    refine (works_any _ (HT.out.below c1)).mono ?_
    rintro e w119 ⟨rfl, b1⟩
    have c2 := c1.trans (b1.mono c1.size); clear c1 b1
    have c1 := c2; clear c2
    go_wp2_with fail
    go_ret
    exact ⟨rfl, c1⟩
end Go.Proofs.YthmbcjladgnigaaDoor
