/-
  Configurations: the laws on what fits, and on slices.
  Conditions: the library's tables lie in the world.
-/
import Derived.Test.YtllgnogiicdhfaaDoorMade17
set_option linter.unusedVariables false
namespace Go.Proofs.YtllgnogiicdhfaaDoor
open Go Go.RowKit

theorem ite_eq_cases {p : Prop} [Decidable p] {a : Int} {b : Bool} (h : decide p = b) : decide p = b := h
theorem lim_facts {S Z R p q : Int} (h1 : R + 2 ≤ S) (h3 : 33 ≤ Z) (hp : (S - R - 2) * (Z - 16) = p) (hq : limV S Z R = q) (hp0 : 0 ≤ p) : 2 * q ≤ p ∧ p ≤ 2 * q + 1 ∧ 0 ≤ q ∧ (q = 0 ↔ S - R - 2 = 0) := by
  unfold limV at hq
  rw [hp] at hq
  have h5 : 2 * q ≤ p ∧ p ≤ 2 * q + 1 ∧ 0 ≤ q := by omega
  refine ⟨h5.1, h5.2.1, h5.2.2, ?_⟩
  constructor
  · intro h0
    by_cases hs : S - R - 2 = 0
    · exact hs
    · have h6 : 1 ≤ S - R - 2 := by omega
      have h7 := Int.mul_le_mul h6 (show (17 : Int) ≤ Z - 16 by omega) (by omega) (by omega)
      rw [hp] at h7
      omega
  · intro hs
    rw [hs, Int.zero_mul] at hp
    omega

set_option maxRecDepth 100000 in
set_option maxHeartbeats 8000000 in
theorem walkConfigFits (n : Nat → Int) (hn : ∀ i, i < 7 → 0 ≤ n i ∧ n i < 4294967296) (m : Int) (w : World) (ht : Tab w) (hm : w.cell? ⟨0, 0, none⟩ = some (.int .i64 m)) :
    Calls Tryd.prog 5 #[arrV n] w fun e w' => e = .returned (.bool true) ∧ Below w.heap.size w w' := by
  have HT := Lib.hid ht
  have HM := Lib.hid hm
  obtain ⟨S, Z, R, W, K, V, P, hE, hmd⟩ := made_any n hn
  have HE := Lib.hid hE
  have HMD := Lib.hid hmd
  clear ht hm hn hmd
  rcases cfg_cases S Z R W K V P with ⟨_, h0, h1, h2, h3, h4, h5, h6⟩ | h'
  · have g1 : 2 ≤ R := h0.1
    have g2 : R ≤ 8 := h0.2
    have g3 : R + 2 ≤ S := h1.1
    have g4 : S ≤ 32 := h1.2
    have g5 : 1 ≤ K := h2.1
    have g6 : K ≤ 32 := h2.2
    have g7 : 0 ≤ V := h3.1
    have g8 : V ≤ 512 := h3.2
    have g9 : 16 + (16 + K + V) ≤ Z := h4.1
    have g10 : Z ≤ 8192 := h4.2
    have g11 : 2 * (16 + K + V + 16) ≤ W := h5.1
    have g12 : W ≤ 65536 := h5.2
    obtain ⟨p1, p2⟩ := lim_bounds h1.1 h1.2 h0.1 (show 32 ≤ Z by omega) g10
    obtain ⟨p, hp⟩ : ∃ p, (S - R - 2) * (Z - 16) = p := ⟨_, rfl⟩
    obtain ⟨q, hq⟩ : ∃ q, limV S Z R = q := ⟨_, rfl⟩
    obtain ⟨f1, f2, f3, f4⟩ := lim_facts g3 (by omega) hp hq (by rw [← hp]; exact p1)
    rw [hp] at p1 p2
    have HQ := Lib.hid hq
    have f5 : q ≤ 300000 := by omega
    have d1 : decide (16 + K + V ≤ Z - 16) = true := by rw [decide_eq_true_iff]; omega
    have d2 : decide (2 * (16 + K + V + 16) ≤ W) = true := by rw [decide_eq_true_iff]; omega
    have d3 : decide (2 * q ≤ p) = true := by rw [decide_eq_true_iff]; omega
    have d4 : decide (p ≤ 2 * q + 1) = true := by rw [decide_eq_true_iff]; omega
    have d5 : ((q == 0) == (S - R - 2 == 0)) = true := by
      rw [beq_iff_eq, Bool.eq_iff_iff, beq_iff_eq, beq_iff_eq]; exact f4
    clear h0 h1 h2 h3 h4 h5 h6 f1 f2 f4 hE hq
    have a0 := arrAt_new w n 36 0 (by decide)
    have a1 := arrAt_new w n 36 1 (by decide)
    have a2 := arrAt_new w n 36 2 (by decide)
    have a3 := arrAt_new w n 36 3 (by decide)
    have a4 := arrAt_new w n 36 4 (by decide)
    have a5 := arrAt_new w n 36 5 (by decide)
    have a6 := arrAt_new w n 36 6 (by decide)
    have c1 : Below w.heap.size w (w.alloc (.cells #[.int .u32 (n 0), .int .u32 (n 1), .int .u32 (n 2), .int .u32 (n 3), .int .u32 (n 4), .int .u32 (n 5), .int .u32 (n 6)] 36)) := (Below.refl _ _).alloc (Nat.le_refl _) _
    go_enter Tryd.func5, Tryd.ntmps5
    go_wp2_with fail
    refine (HMD.out _).mono ?_
    rintro y w1 ⟨rfl, b1⟩
    have c2 := c1.trans (b1.mono c1.size); clear c1 b1
    have c1 := c2; clear c2
    clear a0 a1 a2 a3 a4 a5 a6
    obtain ⟨k0, k1, k2, k3, k4, k5, k6⟩ := cfgAt_new w1 S Z R W K V P 23
    have c2 := c1.alloc c1.size (.cells #[.int .i64 S, .int .i64 Z, .int .i64 R, .int .i64 W, .int .i64 K, .int .i64 V, .int .i64 P] 23); clear c1
    have c1 := c2; clear c2
    go_wp2_with fail
    refine (cRecord_any S Z R W K V P _ (16 + K + V) 0 (Or.inl ⟨rfl, rfl, HE.out⟩)).mono ?_
    rintro y w1 ⟨rfl, b1⟩
    replace k0 := cell_kept k0 b1
    replace k1 := cell_kept k1 b1
    replace k2 := cell_kept k2 b1
    replace k3 := cell_kept k3 b1
    replace k4 := cell_kept k4 b1
    replace k5 := cell_kept k5 b1
    replace k6 := cell_kept k6 b1
    have c2 := c1.trans (b1.mono c1.size); clear c1 b1
    have c1 := c2; clear c2
    go_wp2_with fail
    refine (cRoom_any S Z R W K V P _ (Z - 16) 0 (Or.inl ⟨rfl, rfl, HE.out⟩)).mono ?_
    rintro y w1 ⟨rfl, b1⟩
    replace k0 := cell_kept k0 b1
    replace k1 := cell_kept k1 b1
    replace k2 := cell_kept k2 b1
    replace k3 := cell_kept k3 b1
    replace k4 := cell_kept k4 b1
    replace k5 := cell_kept k5 b1
    replace k6 := cell_kept k6 b1
    have c2 := c1.trans (b1.mono c1.size); clear c1 b1
    have c1 := c2; clear c2
    go_wp2_with fail
    refine (cLimit_any S Z R W K V P _ q 0 (Or.inl ⟨HQ.out.symm, rfl, HE.out⟩)).mono ?_
    rintro y w1 ⟨rfl, b1⟩
    replace k0 := cell_kept k0 b1
    replace k1 := cell_kept k1 b1
    replace k2 := cell_kept k2 b1
    replace k3 := cell_kept k3 b1
    replace k4 := cell_kept k4 b1
    replace k5 := cell_kept k5 b1
    replace k6 := cell_kept k6 b1
    have c2 := c1.trans (b1.mono c1.size); clear c1 b1
    have c1 := c2; clear c2
    go_wp2_with fail
    refine (check_any S Z R W K V P _).mono ?_
    rw [HE.out]
    rintro y w1 ⟨rfl, b1⟩
    replace k0 := cell_kept k0 b1
    replace k1 := cell_kept k1 b1
    replace k2 := cell_kept k2 b1
    replace k3 := cell_kept k3 b1
    replace k4 := cell_kept k4 b1
    replace k5 := cell_kept k5 b1
    replace k6 := cell_kept k6 b1
    have c2 := c1.trans (b1.mono c1.size); clear c1 b1
    have c1 := c2; clear c2
    go_wp2_with fail
    refine (works_any m _ (HT.out.below c1) (cell_kept HM.out c1)).mono ?_
    rintro y w3 ⟨rfl, b1⟩
    replace k0 := cell_kept k0 b1
    replace k1 := cell_kept k1 b1
    replace k2 := cell_kept k2 b1
    replace k3 := cell_kept k3 b1
    replace k4 := cell_kept k4 b1
    replace k5 := cell_kept k5 b1
    replace k6 := cell_kept k6 b1
    have c2 := c1.trans (b1.mono c1.size); clear c1 b1
    have c1 := c2; clear c2
    go_wp2_with fail
    go_ret
    exact ⟨rfl, c1⟩
  · rw [hE] at h'; cases h'

theorem sl_facts {Z W a : Int} (hW : 1 ≤ W) (hZ : 0 ≤ Z) (ha : slV Z W = a) : 2 * Z ≤ (a - 4) * W ∧ (a - 5) * W < 2 * Z ∨ Z = 0 := by
  by_cases hz : Z = 0
  · exact Or.inr hz
  · left
    obtain ⟨n, hn⟩ : ∃ n, 2 * Z / W = n := ⟨_, rfl⟩
    have h0 := slices_eq hW hn
    unfold slV at ha
    rw [h0] at ha
    have h1 := Int.mul_ediv_add_emod (2 * Z) W
    have h2 := Int.emod_nonneg (2 * Z) (show W ≠ 0 by omega)
    have h3 := Int.emod_lt_of_pos (2 * Z) (show 0 < W by omega)
    rw [hn, Int.mul_comm] at h1
    generalize 2 * Z % W = r at *
    by_cases hc : n * W < 2 * Z
    · rw [if_pos hc] at ha
      have e1 : a - 4 = n + 1 := by omega
      have e2 : a - 5 = n := by omega
      rw [e1, e2, Int.add_mul, Int.one_mul]
      omega
    · rw [if_neg hc] at ha
      have e1 : a - 4 = n := by omega
      have e2 : a - 5 = n - 1 := by omega
      rw [e1, e2, Int.sub_mul, Int.one_mul]
      omega
theorem sl_mono {Z W W2 : Int} (hW : 1 ≤ W) (h : W ≤ W2) (hZ : 1 ≤ Z) : slV Z W2 ≤ slV Z W ∧ 5 ≤ slV Z W2 := by
  unfold slV
  have e1 : 2 * Z + W - 1 = (2 * Z - 1) + 1 * W := by omega
  have e2 : 2 * Z + W2 - 1 = (2 * Z - 1) + 1 * W2 := by omega
  rw [e1, e2, Int.add_mul_ediv_right _ _ (show W ≠ 0 by omega), Int.add_mul_ediv_right _ _ (show W2 ≠ 0 by omega)]
  have h1 : (2 * Z - 1) / W2 ≤ (2 * Z - 1) / W := by
    rw [Int.le_ediv_iff_mul_le (by omega)]
    have h2 : 0 ≤ (2 * Z - 1) / W2 := Int.ediv_nonneg (by omega) (by omega)
    exact Int.le_trans (Int.mul_le_mul_of_nonneg_left h h2) (Int.ediv_mul_le _ (by omega))
  have h3 : 0 ≤ (2 * Z - 1) / W2 := Int.ediv_nonneg (by omega) (by omega)
  omega
theorem cfgE_work {S Z R W K V P W2 : Int} (h : cfgE S Z R W K V P = 0) (h1 : W ≤ W2) (h2 : W2 ≤ 65536) : cfgE S Z R W2 K V P = 0 := by
  rcases cfg_cases S Z R W K V P with ⟨_, h0⟩ | h'
  · unfold cfgE
    rw [if_pos]
    rw [cfgOK_iff]
    omega
  · rw [h] at h'; cases h'
theorem u16_in {a : Int} (h : (Lit.int .u16 a).wf = true) : 0 ≤ a ∧ a ≤ 65535 := by
  have e1 : IntKind.u16.min = 0 := rfl
  have e2 : IntKind.u16.max = 65535 := rfl
  simpa [Lit.wf, e1, e2] using h
theorem u8_in {a : Int} (h : (Lit.int .u8 a).wf = true) : 0 ≤ a ∧ a ≤ 255 := by
  have e1 : IntKind.u8.min = 0 := rfl
  have e2 : IntKind.u8.max = 255 := rfl
  simpa [Lit.wf, e1, e2] using h
set_option maxRecDepth 100000 in
set_option maxHeartbeats 8000000 in
theorem walkConfigSlices (n : Nat → Int) (hn : ∀ i, i < 7 → 0 ≤ n i ∧ n i < 4294967296) (x : Int) (hx : (Lit.int .u16 x).wf = true) (m : Int) (w : World) (ht : Tab w) (hm : w.cell? ⟨0, 0, none⟩ = some (.int .i64 m)) :
    Calls Tryd.prog 6 #[arrV n, .int .u16 x] w fun e w' => e = .returned (.bool true) ∧ Below w.heap.size w w' := by
  have HT := Lib.hid ht
  have HM := Lib.hid hm
  obtain ⟨S, Z, R, W, K, V, P, hE, hmd⟩ := made_any n hn
  have HE := Lib.hid hE
  have HMD := Lib.hid hmd
  obtain ⟨x1, x2⟩ := u16_in hx
  clear ht hm hn hmd hx
  rcases cfg_cases S Z R W K V P with ⟨_, h0, h1, h2, h3, h4, h5, h6⟩ | h'
  · have g1 : 33 ≤ Z := by omega
    have g2 : Z ≤ 8192 := h4.2
    have g3 : 66 ≤ W := by omega
    have g4 : W ≤ 65536 := h5.2
    obtain ⟨a, ha⟩ : ∃ a, slV Z W = a := ⟨_, rfl⟩
    have hf := (sl_facts (by omega) (by omega) ha).resolve_right (by omega)
    obtain ⟨y1, hy1⟩ : ∃ y, (a - 4) * W = y := ⟨_, rfl⟩
    obtain ⟨y2, hy2⟩ : ∃ y, (a - 5) * W = y := ⟨_, rfl⟩
    have hy3 : y1 = y2 + W := by
      rw [← hy1, ← hy2, show a - 4 = (a - 5) + 1 by omega, Int.add_mul, Int.one_mul]
    rw [hy1, hy2] at hf
    have d1 : decide (2 * Z ≤ y1) = true := by rw [decide_eq_true_iff]; omega
    have d2 : decide (y2 < 2 * Z) = true := by rw [decide_eq_true_iff]; omega
    have e1 : 2 * Z ≤ y1 := hf.1
    have e2 : y2 < 2 * Z := hf.2
    have e3 : y1 < 2 * Z + W := by omega
    have e4 : 2 * Z - W ≤ y2 := by omega
    have ha5 : a ≤ 20000 := by
      rw [← ha]
      unfold slV
      have : (2 * Z + W - 1) / W ≤ 2 * Z + W - 1 := Int.ediv_le_self _ (by omega)
      have h7 : (2 * Z + W - 1) / W ≤ 1000 := by
        rw [← Int.lt_add_one_iff, Int.ediv_lt_iff_lt_mul (by omega)]
        omega
      omega
    have main : ∀ W2 : Int, W ≤ W2 → W2 ≤ 65536 → (W2 = W + x ∧ W + x ≤ 65536 ∨ W2 = 65536 ∧ 65536 < W + x) → Calls Tryd.prog 6 #[arrV n, .int .u16 x] w fun e w' => e = .returned (.bool true) ∧ Below w.heap.size w w' := by
      intro W2 hW1 hW2 hW3
      have HE2 := Lib.hid (cfgE_work hE hW1 hW2)
      obtain ⟨b, hb⟩ : ∃ b, slV Z W2 = b := ⟨_, rfl⟩
      have hmo := sl_mono (show 1 ≤ W by omega) hW1 (show 1 ≤ Z by omega)
      rw [ha, hb] at hmo
      have b1x : b ≤ a := hmo.1
      have b2x : 5 ≤ b := hmo.2
      have d3 : decide (b ≤ a) = true := by rw [decide_eq_true_iff]; omega
      have d4 : decide (5 ≤ b) = true := by rw [decide_eq_true_iff]; omega
      have HA := Lib.hid ha
      have HB := Lib.hid hb
      clear h0 h1 h2 h3 h4 h5 h6 ha hb hmo hE hf
      have a0 := arrAt_new w n 36 0 (by decide)
      have a1 := arrAt_new w n 36 1 (by decide)
      have a2 := arrAt_new w n 36 2 (by decide)
      have a3 := arrAt_new w n 36 3 (by decide)
      have a4 := arrAt_new w n 36 4 (by decide)
      have a5 := arrAt_new w n 36 5 (by decide)
      have a6 := arrAt_new w n 36 6 (by decide)
      have c1 : Below w.heap.size w (w.alloc (.cells #[.int .u32 (n 0), .int .u32 (n 1), .int .u32 (n 2), .int .u32 (n 3), .int .u32 (n 4), .int .u32 (n 5), .int .u32 (n 6)] 36)) := (Below.refl _ _).alloc (Nat.le_refl _) _
      go_enter Tryd.func6, Tryd.ntmps6
      go_wp2_with fail
      refine (HMD.out _).mono ?_
      rintro y w1 ⟨rfl, b1⟩
      have c2 := c1.trans (b1.mono c1.size); clear c1 b1
      have c1 := c2; clear c2
      clear a0 a1 a2 a3 a4 a5 a6
      obtain ⟨k0, k1, k2, k3, k4, k5, k6⟩ := cfgAt_new w1 S Z R W K V P 23
      have c2 := c1.alloc c1.size (.cells #[.int .i64 S, .int .i64 Z, .int .i64 R, .int .i64 W, .int .i64 K, .int .i64 V, .int .i64 P] 23); clear c1
      have c1 := c2; clear c2
      go_wp2_with fail
      refine (cSlices_any S Z R W K V P _ a 0 (Or.inl ⟨HA.out.symm, rfl, HE.out⟩)).mono ?_
      rintro y w1 ⟨rfl, b1⟩
      replace k0 := cell_kept k0 b1
      replace k1 := cell_kept k1 b1
      replace k2 := cell_kept k2 b1
      replace k3 := cell_kept k3 b1
      replace k4 := cell_kept k4 b1
      replace k5 := cell_kept k5 b1
      replace k6 := cell_kept k6 b1
      have c2 := c1.trans (b1.mono c1.size); clear c1 b1
      have c1 := c2; clear c2
      have hmin : min (W + x) 65536 = W2 := by omega
      have kb3 := cell_old (o := (.cells #[.int .i64 S, .int .i64 Z, .int .i64 R, .int .i64 W, .int .i64 K, .int .i64 V, .int .i64 P] 23)) k3
      have kc0 := cell_old (o := (.cells #[.int .i64 S, .int .i64 Z, .int .i64 R, .int .i64 W2, .int .i64 K, .int .i64 V, .int .i64 P] 23)) k0
      have kc1 := cell_old (o := (.cells #[.int .i64 S, .int .i64 Z, .int .i64 R, .int .i64 W2, .int .i64 K, .int .i64 V, .int .i64 P] 23)) k1
      have kc2 := cell_old (o := (.cells #[.int .i64 S, .int .i64 Z, .int .i64 R, .int .i64 W2, .int .i64 K, .int .i64 V, .int .i64 P] 23)) k2
      have kc3 := cell_old (o := (.cells #[.int .i64 S, .int .i64 Z, .int .i64 R, .int .i64 W2, .int .i64 K, .int .i64 V, .int .i64 P] 23)) k3
      have kc4 := cell_old (o := (.cells #[.int .i64 S, .int .i64 Z, .int .i64 R, .int .i64 W2, .int .i64 K, .int .i64 V, .int .i64 P] 23)) k4
      have kc5 := cell_old (o := (.cells #[.int .i64 S, .int .i64 Z, .int .i64 R, .int .i64 W2, .int .i64 K, .int .i64 V, .int .i64 P] 23)) k5
      have kc6 := cell_old (o := (.cells #[.int .i64 S, .int .i64 Z, .int .i64 R, .int .i64 W2, .int .i64 K, .int .i64 V, .int .i64 P] 23)) k6
      obtain ⟨n0, n1, n2, n3, n4, n5, n6⟩ := cfgAt_new w1 S Z R W2 K V P 23
      have c2 := c1.alloc c1.size (.cells #[.int .i64 S, .int .i64 Z, .int .i64 R, .int .i64 W2, .int .i64 K, .int .i64 V, .int .i64 P] 23); clear c1
      have c1 := c2; clear c2
      go_wp2_with fail
      refine (cSlices_any S Z R W2 K V P _ b 0 (Or.inl ⟨HB.out.symm, rfl, HE2.out⟩)).mono ?_
      rintro y w2 ⟨rfl, b1⟩
      clear k0 k1 k2 k3 k4 k5 k6 kb3 n0 n1 n2 n3 n4 n5 n6
      replace kc0 := cell_kept kc0 b1
      replace kc1 := cell_kept kc1 b1
      replace kc3 := cell_kept kc3 b1
      clear kc2 kc4 kc5 kc6
      have c2 := c1.trans (b1.mono c1.size); clear c1 b1
      have c1 := c2; clear c2
      go_wp2_with fail
      refine (works_any m _ (HT.out.below c1) (cell_kept HM.out c1)).mono ?_
      rintro y w3 ⟨rfl, b1⟩
      have c2 := c1.trans (b1.mono c1.size); clear c1 b1
      have c1 := c2; clear c2
      go_wp2_with fail
      go_ret
      exact ⟨rfl, c1⟩
    by_cases hc : W + x ≤ 65536
    · exact main (W + x) (by omega) hc (Or.inl ⟨rfl, hc⟩)
    · exact main 65536 (by omega) (by omega) (Or.inr ⟨rfl, by omega⟩)
  · rw [hE] at h'; cases h'
end Go.Proofs.YtllgnogiicdhfaaDoor
