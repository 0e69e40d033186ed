/-
  Configurations: what Slices and Limit compute, and the reference's Record, Room, Limit, Slices.
  Conditions: none.
-/
import Derived.Test.YtllgnogiicdhfaaDoorCfg3
set_option linter.unusedVariables false
namespace Go.Proofs.YtllgnogiicdhfaaDoor
open Go Go.RowKit

theorem slices_eq {Z W n : Int} (hW : 1 ≤ W) (hn : 2 * Z / W = n) : (2 * Z + W - 1) / W = if n * W < 2 * Z then n + 1 else n := by
  have h1 := Int.mul_ediv_add_emod (2 * Z) W
  have h2 := Int.emod_nonneg (2 * Z) (show W ≠ 0 by omega)
  have h3 := Int.emod_lt_of_pos (2 * Z) (show 0 < W by omega)
  rw [hn, Int.mul_comm] at h1
  generalize 2 * Z % W = r at *
  have e : 2 * Z + W - 1 = (r + W - 1) + n * W := by omega
  rw [e, Int.add_mul_ediv_right _ _ (show W ≠ 0 by omega)]
  by_cases hr : r = 0
  · subst hr
    rw [if_neg (by omega), Int.ediv_eq_zero_of_lt (by omega) (by omega)]
    omega
  · rw [if_pos (by omega)]
    have : (r + W - 1) / W = 1 := by
      have e2 : r + W - 1 = (r - 1) + 1 * W := by omega
      rw [e2, Int.add_mul_ediv_right _ _ (show W ≠ 0 by omega), Int.ediv_eq_zero_of_lt (by omega) (by omega)]
      omega
    omega
def slV (Z W : Int) : Int := (2 * Z + W - 1) / W + 4

set_option maxRecDepth 100000 in
set_option maxHeartbeats 4000000 in
theorem cSlices_any (S Z R W K V P : Int) (w : World) (v e : Int) (h : (v = slV Z W ∧ e = 0 ∧ cfgE S Z R W K V P = 0) ∨ (v = 0 ∧ e = 2 ∧ cfgE S Z R W K V P = 2)) :
    Calls Tryd.prog 16 #[cfgV S Z R W K V P] w fun x w' => x = .returned (.tuple #[.int .i64 v, .int .i64 e]) ∧ Below w.heap.size w w' := by
  rcases h with ⟨rfl, rfl, h⟩ | ⟨rfl, rfl, h⟩
  · rcases cfg_cases S Z R W K V P with ⟨_, h0, h1, h2, h3, h4, h5, h6⟩ | h'
    · have HE := Lib.hid h
      have g1 : 32 ≤ Z := by omega
      have g2 : Z ≤ 8192 := by omega
      have g3 : 64 ≤ W := by omega
      have g4 : W ≤ 65536 := by omega
      obtain ⟨q, hq⟩ : ∃ q, (2 * Z + W - 1) / W = q := ⟨_, rfl⟩
      have q1 : 0 ≤ q := by rw [← hq]; exact Int.ediv_nonneg (by omega) (by omega)
      have q2 : q ≤ 90000 := by
        rw [← hq]
        exact Int.le_trans (Int.ediv_le_self _ (by omega)) (by omega)
      have HV : Hid (slV Z W = q + 4) := by show _ = _; unfold slV; rw [hq]
      clear h h0 h1 h2 h3 h4 h5 h6
      go_enter Tryd.func16, Tryd.ntmps16
      go_wp2_with fail
      go_in
      go_wp2_with fail
      refine (check_any S Z R W K V P _).mono ?_
      rw [HE.out]
      rintro e w1 ⟨rfl, b1⟩
      have hq := cfgAt_two _ _ _ _ _ _ _ _ _ _ _ _ b1
      have c1 := hq.2
      obtain ⟨k0, k1, k2, k3, k4, k5, k6⟩ := hq.1
      clear hq b1
      go_wp2_with fail
      go_in
      go_wp2_with fail
      go_ret2
      exact ⟨by rw [HV.out]; rfl, c1⟩
    · rw [h] at h'; cases h'
  · skip
    have HE := Lib.hid h
    clear h
    go_enter Tryd.func16, Tryd.ntmps16
    go_wp2_with fail
    go_in
    go_wp2_with fail
    refine (check_any S Z R W K V P _).mono ?_
    rw [HE.out]
    rintro e w1 ⟨rfl, b1⟩
    have hq := cfgAt_two _ _ _ _ _ _ _ _ _ _ _ _ b1
    have c1 := hq.2
    clear hq b1
    go_wp2_with fail
    go_ret2
    exact ⟨rfl, c1⟩

def limV (S Z R : Int) : Int := (S - R - 2) * (Z - 16) / 2
theorem lim_bounds {S Z R : Int} (h1 : R + 2 ≤ S) (h2 : S ≤ 32) (h0 : 2 ≤ R) (h3 : 32 ≤ Z) (h4 : Z ≤ 8192) : 0 ≤ (S - R - 2) * (Z - 16) ∧ (S - R - 2) * (Z - 16) ≤ 300000 := by
  constructor
  · exact Int.mul_nonneg (by omega) (by omega)
  · have := Int.mul_le_mul (show S - R - 2 ≤ 28 by omega) (show Z - 16 ≤ 8176 by omega) (by omega) (by omega)
    omega

set_option maxRecDepth 100000 in
set_option maxHeartbeats 4000000 in
theorem cLimit_any (S Z R W K V P : Int) (w : World) (v e : Int) (h : (v = limV S Z R ∧ e = 0 ∧ cfgE S Z R W K V P = 0) ∨ (v = 0 ∧ e = 2 ∧ cfgE S Z R W K V P = 2)) :
    Calls Tryd.prog 14 #[cfgV S Z R W K V P] w fun x w' => x = .returned (.tuple #[.int .i64 v, .int .i64 e]) ∧ Below w.heap.size w w' := by
  rcases h with ⟨rfl, rfl, h⟩ | ⟨rfl, rfl, h⟩
  · rcases cfg_cases S Z R W K V P with ⟨_, h0, h1, h2, h3, h4, h5, h6⟩ | h'
    · have HE := Lib.hid h
      have HR : Hid (32 ≤ Z ∧ Z ≤ 8192) := by show 32 ≤ Z ∧ Z ≤ 8192; omega
      have g1 : 2 ≤ R := h0.1
      have g2 : R ≤ 8 := h0.2
      have g3 : R + 2 ≤ S := h1.1
      have g4 : S ≤ 32 := h1.2
      obtain ⟨p1, p2⟩ := lim_bounds h1.1 h1.2 h0.1 HR.out.1 HR.out.2
      have s1 : IntKind.i64.wrap (S - R) = S - R := IntWalk.i64_in _ (by omega)
      have s2 : IntKind.i64.wrap (S - R - 2) = S - R - 2 := IntWalk.i64_in _ (by omega)
      have s3 : IntKind.i64.wrap ((S - R - 2) * (Z - 16)) = (S - R - 2) * (Z - 16) := IntWalk.i64_in _ (by omega)
      have HV : Hid (limV S Z R = (S - R - 2) * (Z - 16) / 2) := rfl
      have s4 : ((S - R - 2) * (Z - 16)).tdiv 2 = (S - R - 2) * (Z - 16) / 2 := Int.tdiv_eq_ediv_of_nonneg p1
      have s5 : IntKind.i64.wrap ((S - R - 2) * (Z - 16) / 2) = (S - R - 2) * (Z - 16) / 2 := IntWalk.i64_in _ (by omega)
      clear h h0 h1 h2 h3 h4 h5 h6
      go_enter Tryd.func14, Tryd.ntmps14
      go_wp2_with fail
      go_in
      go_wp2_with fail
      refine (check_any S Z R W K V P _).mono ?_
      rw [HE.out]
      rintro e w1 ⟨rfl, b1⟩
      have hq := cfgAt_two _ _ _ _ _ _ _ _ _ _ _ _ b1
      have c1 := hq.2
      obtain ⟨k0, k1, k2, k3, k4, k5, k6⟩ := hq.1
      clear hq b1
      go_wp2_with fail
      go_in
      go_wp2_with fail
      go_region_held3 (fun w' => w'.cell? ⟨w.heap.size, 0, none⟩ = some (.int .i64 S) ∧ w'.cell? ⟨w.heap.size, 1, none⟩ = some (.int .i64 Z) ∧ w'.cell? ⟨w.heap.size, 2, none⟩ = some (.int .i64 R) ∧ w'.cell? ⟨w.heap.size, 3, none⟩ = some (.int .i64 W) ∧
          w'.cell? ⟨w.heap.size, 4, none⟩ = some (.int .i64 K) ∧ w'.cell? ⟨w.heap.size, 5, none⟩ = some (.int .i64 V) ∧ w'.cell? ⟨w.heap.size, 6, none⟩ = some (.int .i64 P) ∧ Below w.heap.size w w')
        (first
          | exact ⟨k0, k1, k2, k3, k4, k5, k6, c1.drew⟩
          | exact ⟨by assumption, by assumption, by assumption, by assumption, by assumption, by assumption, by assumption, by assumption⟩
          | (go_split_ands; exact ⟨cell_kept (by assumption) b1, cell_kept (by assumption) b1, cell_kept (by assumption) b1, cell_kept (by assumption) b1, cell_kept (by assumption) b1, cell_kept (by assumption) b1, cell_kept (by assumption) b1, Below.trans (by assumption) (b1.mono (Below.size (by assumption)))⟩))
        (first | (go_at_call 32; refine (room_any S Z R W K V P _ HR.out.1 HR.out.2).mono ?_; rintro e w2 ⟨rfl, b1⟩))
      have c2 : Below w.heap.size w w2 := by
        first
          | assumption
          | (go_split_ands; first | assumption | exact Below.trans (by assumption) (b1.mono (Below.size (by assumption))))
      clear b1 c1
      go_wp2_with fail
      go_ret2
      exact ⟨by rw [HV.out]; rfl, c2⟩
    · rw [h] at h'; cases h'
  · skip
    have HE := Lib.hid h
    clear h
    go_enter Tryd.func14, Tryd.ntmps14
    go_wp2_with fail
    go_in
    go_wp2_with fail
    refine (check_any S Z R W K V P _).mono ?_
    rw [HE.out]
    rintro e w1 ⟨rfl, b1⟩
    have hq := cfgAt_two _ _ _ _ _ _ _ _ _ _ _ _ b1
    have c1 := hq.2
    clear hq b1
    go_wp2_with fail
    go_ret2
    exact ⟨rfl, c1⟩

set_option maxRecDepth 100000 in
set_option maxHeartbeats 4000000 in
theorem rRecord_any (S Z R W K V P : Int) (w : World) (v e : Int) (h : (v = 16 + K + V ∧ e = 0 ∧ cfgE S Z R W K V P = 0) ∨ (v = 0 ∧ e = 2 ∧ cfgE S Z R W K V P = 2)) :
    Calls Tryd.prog 11 #[cfgV S Z R W K V P] w fun x w' => x = .returned (.tuple #[.int .i64 v, .int .i64 e]) ∧ Below w.heap.size w w' := by
  rcases h with ⟨rfl, rfl, h⟩ | ⟨rfl, rfl, h⟩
  · rcases cfg_cases S Z R W K V P with ⟨_, h0, h1, ⟨g1, g2⟩, ⟨g3, g4⟩, h4, h5, h6⟩ | h'
    · have HE := Lib.hid h
      clear h h0 h1 h4 h5 h6
      go_enter Tryd.func11, Tryd.ntmps11
      go_wp2_with fail
      refine (rcheck_any S Z R W K V P _).mono ?_
      rw [HE.out]
      rintro e w1 ⟨rfl, b1⟩
      have c1 := ((Below.refl w.heap.size w).alloc (Nat.le_refl _) (.cells #[.int .i64 S, .int .i64 Z, .int .i64 R, .int .i64 W, .int .i64 K, .int .i64 V, .int .i64 P] 23)).trans (b1.mono (by simp))
      obtain ⟨k0, k1, k2, k3, k4, k5, k6⟩ := cfgAt_new w S Z R W K V P 23
      have k0 := cell_kept k0 b1
      have k1 := cell_kept k1 b1
      have k2 := cell_kept k2 b1
      have k3 := cell_kept k3 b1
      have k4 := cell_kept k4 b1
      have k5 := cell_kept k5 b1
      have k6 := cell_kept k6 b1
      clear b1
      go_wp2_with fail
      go_ret2
      exact ⟨rfl, c1⟩
    · rw [h] at h'; cases h'
  · skip
    have HE := Lib.hid h
    clear h
    go_enter Tryd.func11, Tryd.ntmps11
    go_wp2_with fail
    refine (rcheck_any S Z R W K V P _).mono ?_
    rw [HE.out]
    rintro e w1 ⟨rfl, b1⟩
    have c1 := ((Below.refl w.heap.size w).alloc (Nat.le_refl _) (.cells #[.int .i64 S, .int .i64 Z, .int .i64 R, .int .i64 W, .int .i64 K, .int .i64 V, .int .i64 P] 23)).trans (b1.mono (by simp))
    clear b1
    go_wp2_with fail
    go_ret2
    exact ⟨rfl, c1⟩
set_option maxRecDepth 100000 in
set_option maxHeartbeats 4000000 in
theorem rRoom_any (S Z R W K V P : Int) (w : World) (v e : Int) (h : (v = Z - 16 ∧ e = 0 ∧ cfgE S Z R W K V P = 0) ∨ (v = 0 ∧ e = 2 ∧ cfgE S Z R W K V P = 2)) :
    Calls Tryd.prog 13 #[cfgV S Z R W K V P] w fun x w' => x = .returned (.tuple #[.int .i64 v, .int .i64 e]) ∧ Below w.heap.size w w' := by
  rcases h with ⟨rfl, rfl, h⟩ | ⟨rfl, rfl, h⟩
  · rcases cfg_cases S Z R W K V P with ⟨_, h0, h1, h2, h3, h4, h5, h6⟩ | h'
    · have HE := Lib.hid h
      have g1 : 32 ≤ Z := by omega
      have g2 : Z ≤ 8192 := by omega
      clear h h0 h1 h2 h3 h4 h5 h6
      go_enter Tryd.func13, Tryd.ntmps13
      go_wp2_with fail
      refine (rcheck_any S Z R W K V P _).mono ?_
      rw [HE.out]
      rintro e w1 ⟨rfl, b1⟩
      have c1 := ((Below.refl w.heap.size w).alloc (Nat.le_refl _) (.cells #[.int .i64 S, .int .i64 Z, .int .i64 R, .int .i64 W, .int .i64 K, .int .i64 V, .int .i64 P] 23)).trans (b1.mono (by simp))
      obtain ⟨k0, k1, k2, k3, k4, k5, k6⟩ := cfgAt_new w S Z R W K V P 23
      have k0 := cell_kept k0 b1
      have k1 := cell_kept k1 b1
      have k2 := cell_kept k2 b1
      have k3 := cell_kept k3 b1
      have k4 := cell_kept k4 b1
      have k5 := cell_kept k5 b1
      have k6 := cell_kept k6 b1
      clear b1
      go_wp2_with fail
      go_ret2
      exact ⟨rfl, c1⟩
    · rw [h] at h'; cases h'
  · skip
    have HE := Lib.hid h
    clear h
    go_enter Tryd.func13, Tryd.ntmps13
    go_wp2_with fail
    refine (rcheck_any S Z R W K V P _).mono ?_
    rw [HE.out]
    rintro e w1 ⟨rfl, b1⟩
    have c1 := ((Below.refl w.heap.size w).alloc (Nat.le_refl _) (.cells #[.int .i64 S, .int .i64 Z, .int .i64 R, .int .i64 W, .int .i64 K, .int .i64 V, .int .i64 P] 23)).trans (b1.mono (by simp))
    clear b1
    go_wp2_with fail
    go_ret2
    exact ⟨rfl, c1⟩
set_option maxRecDepth 100000 in
set_option maxHeartbeats 4000000 in
theorem rLimit_any (S Z R W K V P : Int) (w : World) (v e : Int) (h : (v = limV S Z R ∧ e = 0 ∧ cfgE S Z R W K V P = 0) ∨ (v = 0 ∧ e = 2 ∧ cfgE S Z R W K V P = 2)) :
    Calls Tryd.prog 15 #[cfgV S Z R W K V P] w fun x w' => x = .returned (.tuple #[.int .i64 v, .int .i64 e]) ∧ Below w.heap.size w w' := by
  rcases h with ⟨rfl, rfl, h⟩ | ⟨rfl, rfl, h⟩
  · rcases cfg_cases S Z R W K V P with ⟨_, h0, h1, h2, h3, h4, h5, h6⟩ | h'
    · have HE := Lib.hid h
      have g1 : 2 ≤ R := h0.1
      have g2 : R ≤ 8 := h0.2
      have g3 : R + 2 ≤ S := h1.1
      have g4 : S ≤ 32 := h1.2
      have g5 : 32 ≤ Z := by omega
      have g6 : Z ≤ 8192 := by omega
      obtain ⟨p1, p2⟩ := lim_bounds h1.1 h1.2 h0.1 g5 g6
      have HV : Hid (limV S Z R = (S - R - 2) * (Z - 16) / 2) := rfl
      clear h h0 h1 h2 h3 h4 h5 h6
      obtain ⟨p, hp⟩ : ∃ p, (S - R - 2) * (Z - 16) = p := ⟨_, rfl⟩
      rw [hp] at p1 p2 HV
      go_enter Tryd.func15, Tryd.ntmps15
      go_wp2_with fail
      refine (rcheck_any S Z R W K V P _).mono ?_
      rw [HE.out]
      rintro e w1 ⟨rfl, b1⟩
      have c1 := ((Below.refl w.heap.size w).alloc (Nat.le_refl _) (.cells #[.int .i64 S, .int .i64 Z, .int .i64 R, .int .i64 W, .int .i64 K, .int .i64 V, .int .i64 P] 23)).trans (b1.mono (by simp))
      obtain ⟨k0, k1, k2, k3, k4, k5, k6⟩ := cfgAt_new w S Z R W K V P 23
      have k0 := cell_kept k0 b1
      have k1 := cell_kept k1 b1
      have k2 := cell_kept k2 b1
      have k3 := cell_kept k3 b1
      have k4 := cell_kept k4 b1
      have k5 := cell_kept k5 b1
      have k6 := cell_kept k6 b1
      clear b1
      go_wp2_with fail
      go_ret2
      exact ⟨by rw [HV.out]; rfl, c1⟩
    · rw [h] at h'; cases h'
  · skip
    have HE := Lib.hid h
    clear h
    go_enter Tryd.func15, Tryd.ntmps15
    go_wp2_with fail
    refine (rcheck_any S Z R W K V P _).mono ?_
    rw [HE.out]
    rintro e w1 ⟨rfl, b1⟩
    have c1 := ((Below.refl w.heap.size w).alloc (Nat.le_refl _) (.cells #[.int .i64 S, .int .i64 Z, .int .i64 R, .int .i64 W, .int .i64 K, .int .i64 V, .int .i64 P] 23)).trans (b1.mono (by simp))
    clear b1
    go_wp2_with fail
    go_ret2
    exact ⟨rfl, c1⟩
set_option maxRecDepth 100000 in
set_option maxHeartbeats 4000000 in
theorem rSlices_any (S Z R W K V P : Int) (w : World) (v e : Int) (h : (v = slV Z W ∧ e = 0 ∧ cfgE S Z R W K V P = 0) ∨ (v = 0 ∧ e = 2 ∧ cfgE S Z R W K V P = 2)) :
    Calls Tryd.prog 17 #[cfgV S Z R W K V P] w fun x w' => x = .returned (.tuple #[.int .i64 v, .int .i64 e]) ∧ Below w.heap.size w w' := by
  rcases h with ⟨rfl, rfl, h⟩ | ⟨rfl, rfl, h⟩
  · rcases cfg_cases S Z R W K V P with ⟨_, h0, h1, h2, h3, h4, h5, h6⟩ | h'
    · have HE := Lib.hid h
      have g1 : 32 ≤ Z := by omega
      have g2 : Z ≤ 8192 := by omega
      have g3 : 64 ≤ W := by omega
      have g4 : W ≤ 65536 := by omega
      obtain ⟨q, hq⟩ : ∃ q, 2 * Z / W = q := ⟨_, rfl⟩
      have q1 : 0 ≤ q := by rw [← hq]; exact Int.ediv_nonneg (by omega) (by omega)
      have q2 : q ≤ 20000 := by
        rw [← hq]
        exact Int.le_trans (Int.ediv_le_self _ (by omega)) (by omega)
      have hle : q * W ≤ 2 * Z := by rw [← hq]; exact Int.ediv_mul_le _ (by omega)
      have hge : 0 ≤ q * W := Int.mul_nonneg q1 (by omega)
      have hsl := slices_eq (show 1 ≤ W by omega) hq
      obtain ⟨p, hp⟩ : ∃ p, q * W = p := ⟨_, rfl⟩
      rw [hp] at hle hge hsl
      by_cases hc : p < 2 * Z
      · have HV : Hid (slV Z W = q + 1 + 4) := by show _ = _; unfold slV; rw [hsl, if_pos hc]
        have d1 : decide (p < 2 * Z) = true := by rw [decide_eq_true_iff]; exact hc
        clear h h0 h1 h2 h3 h4 h5 h6 hsl hc
        go_enter Tryd.func17, Tryd.ntmps17
        go_wp2_with fail
        refine (rcheck_any S Z R W K V P _).mono ?_
        rw [HE.out]
        rintro e w1 ⟨rfl, b1⟩
        have c1 := ((Below.refl w.heap.size w).alloc (Nat.le_refl _) (.cells #[.int .i64 S, .int .i64 Z, .int .i64 R, .int .i64 W, .int .i64 K, .int .i64 V, .int .i64 P] 23)).trans (b1.mono (by simp))
        obtain ⟨k0, k1, k2, k3, k4, k5, k6⟩ := cfgAt_new w S Z R W K V P 23
        have k0 := cell_kept k0 b1
        have k1 := cell_kept k1 b1
        have k2 := cell_kept k2 b1
        have k3 := cell_kept k3 b1
        have k4 := cell_kept k4 b1
        have k5 := cell_kept k5 b1
        have k6 := cell_kept k6 b1
        clear b1
        go_wp2_with fail
        go_ret2
        exact ⟨by rw [HV.out]; rfl, c1⟩
      · have HV : Hid (slV Z W = q + 4) := by show _ = _; unfold slV; rw [hsl, if_neg hc]
        have d1 : decide (p < 2 * Z) = false := by rw [decide_eq_false_iff_not]; exact hc
        clear h h0 h1 h2 h3 h4 h5 h6 hsl hc
        go_enter Tryd.func17, Tryd.ntmps17
        go_wp2_with fail
        refine (rcheck_any S Z R W K V P _).mono ?_
        rw [HE.out]
        rintro e w1 ⟨rfl, b1⟩
        have c1 := ((Below.refl w.heap.size w).alloc (Nat.le_refl _) (.cells #[.int .i64 S, .int .i64 Z, .int .i64 R, .int .i64 W, .int .i64 K, .int .i64 V, .int .i64 P] 23)).trans (b1.mono (by simp))
        obtain ⟨k0, k1, k2, k3, k4, k5, k6⟩ := cfgAt_new w S Z R W K V P 23
        have k0 := cell_kept k0 b1
        have k1 := cell_kept k1 b1
        have k2 := cell_kept k2 b1
        have k3 := cell_kept k3 b1
        have k4 := cell_kept k4 b1
        have k5 := cell_kept k5 b1
        have k6 := cell_kept k6 b1
        clear b1
        go_wp2_with fail
        go_ret2
        exact ⟨by rw [HV.out]; rfl, c1⟩
    · rw [h] at h'; cases h'
  · skip
    have HE := Lib.hid h
    clear h
    go_enter Tryd.func17, Tryd.ntmps17
    go_wp2_with fail
    refine (rcheck_any S Z R W K V P _).mono ?_
    rw [HE.out]
    rintro e w1 ⟨rfl, b1⟩
    have c1 := ((Below.refl w.heap.size w).alloc (Nat.le_refl _) (.cells #[.int .i64 S, .int .i64 Z, .int .i64 R, .int .i64 W, .int .i64 K, .int .i64 V, .int .i64 P] 23)).trans (b1.mono (by simp))
    clear b1
    go_wp2_with fail
    go_ret2
    exact ⟨rfl, c1⟩
end Go.Proofs.YtllgnogiicdhfaaDoor
