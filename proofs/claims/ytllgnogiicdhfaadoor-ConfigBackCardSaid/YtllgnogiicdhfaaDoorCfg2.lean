/-
  Configurations: what the reference's Check computes.
  Conditions: none.
-/
import Derived.Test.YtllgnogiicdhfaaDoorCfg1
set_option linter.unusedVariables false
namespace Go.Proofs.YtllgnogiicdhfaaDoor
open Go Go.RowKit

theorem in_is (n l m : Int) (b : Bool) (h : decide (l ≤ n ∧ n ≤ m) = b) (w : World) :
    Calls Tryd.prog 35 #[.int .i64 n, .int .i64 l, .int .i64 m] w fun e w' => e = .returned (.bool b) ∧ w = w' := by
  subst h; exact in_any n l m w

set_option maxRecDepth 100000 in
set_option maxHeartbeats 4000000 in
theorem rcheck_any (S Z R W K V P : Int) (w : World) :
    Calls Tryd.prog 19 #[cfgV S Z R W K V P] w fun e w' => e = .returned (.int .i64 (cfgE S Z R W K V P)) ∧ Below w.heap.size w w' := by
  have hiff := cfgOK_iff S Z R W K V P
  by_cases h0 : 2 ≤ R ∧ R ≤ 8
  case neg =>
    have H0 : Hid (decide (2 ≤ R ∧ R ≤ 8) = false) := by show _ = _; rw [decide_eq_false_iff_not]; exact h0
    have HB : Hid (cfgE S Z R W K V P = 2) := by show _ = _; unfold cfgE; rw [if_neg]; intro hc; exact h0 (hiff.1 hc).1
    clear h0 hiff
    go_enter Tryd.func19, Tryd.ntmps19
    go_wp2_with fail
    refine (in_is _ _ _ false H0.out _).mono ?_
    rintro e w101 ⟨rfl, rfl⟩
    go_wp2_with fail
    go_ret
    exact ⟨by rw [HB.out]; rfl, (Below.refl _ _).alloc (Nat.le_refl _) _⟩
  have H0 : Hid (decide (2 ≤ R ∧ R ≤ 8) = true) := by show _ = _; rw [decide_eq_true_iff]; exact h0
  by_cases h1 : R + 2 ≤ S ∧ S ≤ 32
  case neg =>
    have H1 : Hid (decide (R + 2 ≤ S ∧ S ≤ 32) = false) := by show _ = _; rw [decide_eq_false_iff_not]; exact h1
    have HB : Hid (cfgE S Z R W K V P = 2) := by show _ = _; unfold cfgE; rw [if_neg]; intro hc; exact h1 (hiff.1 hc).2.1
    clear h1 hiff
    obtain ⟨_, _⟩ := h0
    go_enter Tryd.func19, Tryd.ntmps19
    go_wp2_with fail
    refine (in_is _ _ _ true H0.out _).mono ?_
    rintro e w102 ⟨rfl, rfl⟩
    go_wp2_with fail
    refine (in_is _ _ _ false H1.out _).mono ?_
    rintro e w103 ⟨rfl, rfl⟩
    go_wp2_with fail
    go_ret
    exact ⟨by rw [HB.out]; rfl, (Below.refl _ _).alloc (Nat.le_refl _) _⟩
  have H1 : Hid (decide (R + 2 ≤ S ∧ S ≤ 32) = true) := by show _ = _; rw [decide_eq_true_iff]; exact h1
  by_cases h2 : 1 ≤ K ∧ K ≤ 32
  case neg =>
    have H2 : Hid (decide (1 ≤ K ∧ K ≤ 32) = false) := by show _ = _; rw [decide_eq_false_iff_not]; exact h2
    have HB : Hid (cfgE S Z R W K V P = 2) := by show _ = _; unfold cfgE; rw [if_neg]; intro hc; exact h2 (hiff.1 hc).2.2.1
    clear h2 hiff
    obtain ⟨_, _⟩ := h0
    obtain ⟨_, _⟩ := h1
    go_enter Tryd.func19, Tryd.ntmps19
    go_wp2_with fail
    refine (in_is _ _ _ true H0.out _).mono ?_
    rintro e w104 ⟨rfl, rfl⟩
    go_wp2_with fail
    refine (in_is _ _ _ true H1.out _).mono ?_
    rintro e w105 ⟨rfl, rfl⟩
    go_wp2_with fail
    refine (in_is _ _ _ false H2.out _).mono ?_
    rintro e w106 ⟨rfl, rfl⟩
    go_wp2_with fail
    go_ret
    exact ⟨by rw [HB.out]; rfl, (Below.refl _ _).alloc (Nat.le_refl _) _⟩
  have H2 : Hid (decide (1 ≤ K ∧ K ≤ 32) = true) := by show _ = _; rw [decide_eq_true_iff]; exact h2
  by_cases h3 : 0 ≤ V ∧ V ≤ 512
  case neg =>
    have H3 : Hid (decide (0 ≤ V ∧ V ≤ 512) = false) := by show _ = _; rw [decide_eq_false_iff_not]; exact h3
    have HB : Hid (cfgE S Z R W K V P = 2) := by show _ = _; unfold cfgE; rw [if_neg]; intro hc; exact h3 (hiff.1 hc).2.2.2.1
    clear h3 hiff
    obtain ⟨_, _⟩ := h0
    obtain ⟨_, _⟩ := h1
    obtain ⟨_, _⟩ := h2
    go_enter Tryd.func19, Tryd.ntmps19
    go_wp2_with fail
    refine (in_is _ _ _ true H0.out _).mono ?_
    rintro e w107 ⟨rfl, rfl⟩
    go_wp2_with fail
    refine (in_is _ _ _ true H1.out _).mono ?_
    rintro e w108 ⟨rfl, rfl⟩
    go_wp2_with fail
    refine (in_is _ _ _ true H2.out _).mono ?_
    rintro e w109 ⟨rfl, rfl⟩
    go_wp2_with fail
    refine (in_is _ _ _ false H3.out _).mono ?_
    rintro e w110 ⟨rfl, rfl⟩
    go_wp2_with fail
    go_ret
    exact ⟨by rw [HB.out]; rfl, (Below.refl _ _).alloc (Nat.le_refl _) _⟩
  have H3 : Hid (decide (0 ≤ V ∧ V ≤ 512) = true) := by show _ = _; rw [decide_eq_true_iff]; exact h3
  by_cases h4 : 16 + (16 + K + V) ≤ Z ∧ Z ≤ 8192
  case neg =>
    have H4 : Hid (decide (16 + (16 + K + V) ≤ Z ∧ Z ≤ 8192) = false) := by show _ = _; rw [decide_eq_false_iff_not]; exact h4
    have HB : Hid (cfgE S Z R W K V P = 2) := by show _ = _; unfold cfgE; rw [if_neg]; intro hc; exact h4 (hiff.1 hc).2.2.2.2.1
    clear h4 hiff
    obtain ⟨_, _⟩ := h0
    obtain ⟨_, _⟩ := h1
    obtain ⟨_, _⟩ := h2
    obtain ⟨_, _⟩ := h3
    go_enter Tryd.func19, Tryd.ntmps19
    go_wp2_with fail
    refine (in_is _ _ _ true H0.out _).mono ?_
    rintro e w111 ⟨rfl, rfl⟩
    go_wp2_with fail
    refine (in_is _ _ _ true H1.out _).mono ?_
    rintro e w112 ⟨rfl, rfl⟩
    go_wp2_with fail
    refine (in_is _ _ _ true H2.out _).mono ?_
    rintro e w113 ⟨rfl, rfl⟩
    go_wp2_with fail
    refine (in_is _ _ _ true H3.out _).mono ?_
    rintro e w114 ⟨rfl, rfl⟩
    go_wp2_with fail
    refine (in_is _ _ _ false H4.out _).mono ?_
    rintro e w115 ⟨rfl, rfl⟩
    go_wp2_with fail
    go_ret
    exact ⟨by rw [HB.out]; rfl, (Below.refl _ _).alloc (Nat.le_refl _) _⟩
  have H4 : Hid (decide (16 + (16 + K + V) ≤ Z ∧ Z ≤ 8192) = true) := by show _ = _; rw [decide_eq_true_iff]; exact h4
  by_cases h5 : 2 * (16 + K + V + 16) ≤ W ∧ W ≤ 65536
  case neg =>
    have H5 : Hid (decide (2 * (16 + K + V + 16) ≤ W ∧ W ≤ 65536) = false) := by show _ = _; rw [decide_eq_false_iff_not]; exact h5
    have HB : Hid (cfgE S Z R W K V P = 2) := by show _ = _; unfold cfgE; rw [if_neg]; intro hc; exact h5 (hiff.1 hc).2.2.2.2.2.1
    clear h5 hiff
    obtain ⟨_, _⟩ := h0
    obtain ⟨_, _⟩ := h1
    obtain ⟨_, _⟩ := h2
    obtain ⟨_, _⟩ := h3
    obtain ⟨_, _⟩ := h4
    go_enter Tryd.func19, Tryd.ntmps19
    go_wp2_with fail
    refine (in_is _ _ _ true H0.out _).mono ?_
    rintro e w116 ⟨rfl, rfl⟩
    go_wp2_with fail
    refine (in_is _ _ _ true H1.out _).mono ?_
    rintro e w117 ⟨rfl, rfl⟩
    go_wp2_with fail
    refine (in_is _ _ _ true H2.out _).mono ?_
    rintro e w118 ⟨rfl, rfl⟩
    go_wp2_with fail
    refine (in_is _ _ _ true H3.out _).mono ?_
    rintro e w119 ⟨rfl, rfl⟩
    go_wp2_with fail
    refine (in_is _ _ _ true H4.out _).mono ?_
    rintro e w120 ⟨rfl, rfl⟩
    go_wp2_with fail
    refine (in_is _ _ _ false H5.out _).mono ?_
    rintro e w121 ⟨rfl, rfl⟩
    go_wp2_with fail
    go_ret
    exact ⟨by rw [HB.out]; rfl, (Below.refl _ _).alloc (Nat.le_refl _) _⟩
  have H5 : Hid (decide (2 * (16 + K + V + 16) ≤ W ∧ W ≤ 65536) = true) := by show _ = _; rw [decide_eq_true_iff]; exact h5
  by_cases h6 : 1 ≤ P ∧ P ≤ 2
  case neg =>
    have H6 : Hid (decide (1 ≤ P ∧ P ≤ 2) = false) := by show _ = _; rw [decide_eq_false_iff_not]; exact h6
    have HB : Hid (cfgE S Z R W K V P = 2) := by show _ = _; unfold cfgE; rw [if_neg]; intro hc; exact h6 (hiff.1 hc).2.2.2.2.2.2
    clear h6 hiff
    obtain ⟨_, _⟩ := h0
    obtain ⟨_, _⟩ := h1
    obtain ⟨_, _⟩ := h2
    obtain ⟨_, _⟩ := h3
    obtain ⟨_, _⟩ := h4
    obtain ⟨_, _⟩ := h5
    go_enter Tryd.func19, Tryd.ntmps19
    go_wp2_with fail
    refine (in_is _ _ _ true H0.out _).mono ?_
    rintro e w122 ⟨rfl, rfl⟩
    go_wp2_with fail
    refine (in_is _ _ _ true H1.out _).mono ?_
    rintro e w123 ⟨rfl, rfl⟩
    go_wp2_with fail
    refine (in_is _ _ _ true H2.out _).mono ?_
    rintro e w124 ⟨rfl, rfl⟩
    go_wp2_with fail
    refine (in_is _ _ _ true H3.out _).mono ?_
    rintro e w125 ⟨rfl, rfl⟩
    go_wp2_with fail
    refine (in_is _ _ _ true H4.out _).mono ?_
    rintro e w126 ⟨rfl, rfl⟩
    go_wp2_with fail
    refine (in_is _ _ _ true H5.out _).mono ?_
    rintro e w127 ⟨rfl, rfl⟩
    go_wp2_with fail
    refine (in_is _ _ _ false H6.out _).mono ?_
    rintro e w128 ⟨rfl, rfl⟩
    go_wp2_with fail
    go_ret
    exact ⟨by rw [HB.out]; rfl, (Below.refl _ _).alloc (Nat.le_refl _) _⟩
  have H6 : Hid (decide (1 ≤ P ∧ P ≤ 2) = true) := by show _ = _; rw [decide_eq_true_iff]; exact h6
  have HB : Hid (cfgE S Z R W K V P = 0) := by show _ = _; unfold cfgE; rw [if_pos (hiff.2 ⟨h0, h1, h2, h3, h4, h5, h6⟩)]
  clear hiff
  obtain ⟨_, _⟩ := h0
  obtain ⟨_, _⟩ := h1
  obtain ⟨_, _⟩ := h2
  obtain ⟨_, _⟩ := h3
  obtain ⟨_, _⟩ := h4
  obtain ⟨_, _⟩ := h5
  obtain ⟨_, _⟩ := h6
  go_enter Tryd.func19, Tryd.ntmps19
  go_wp2_with fail
  refine (in_is _ _ _ true H0.out _).mono ?_
  rintro e w129 ⟨rfl, rfl⟩
  go_wp2_with fail
  refine (in_is _ _ _ true H1.out _).mono ?_
  rintro e w130 ⟨rfl, rfl⟩
  go_wp2_with fail
  refine (in_is _ _ _ true H2.out _).mono ?_
  rintro e w131 ⟨rfl, rfl⟩
  go_wp2_with fail
  refine (in_is _ _ _ true H3.out _).mono ?_
  rintro e w132 ⟨rfl, rfl⟩
  go_wp2_with fail
  refine (in_is _ _ _ true H4.out _).mono ?_
  rintro e w133 ⟨rfl, rfl⟩
  go_wp2_with fail
  refine (in_is _ _ _ true H5.out _).mono ?_
  rintro e w134 ⟨rfl, rfl⟩
  go_wp2_with fail
  refine (in_is _ _ _ true H6.out _).mono ?_
  rintro e w135 ⟨rfl, rfl⟩
  go_wp2_with fail
  go_ret
  exact ⟨by rw [HB.out]; rfl, (Below.refl _ _).alloc (Nat.le_refl _) _⟩
end Go.Proofs.YtllgnogiicdhfaaDoor
