/-
  Configurations: what Record, Room, Limit and Slices compute.
  Conditions: none.
-/
import Derived.Test.YtllgnogiicdhfaaDoorCfg2
set_option linter.unusedVariables false
namespace Go.Proofs.YtllgnogiicdhfaaDoor
open Go Go.RowKit

theorem cfg_cases (S Z R W K V P : Int) : (cfgE S Z R W K V P = 0 ∧ (2 ≤ R ∧ R ≤ 8) ∧ (R + 2 ≤ S ∧ S ≤ 32) ∧ (1 ≤ K ∧ K ≤ 32) ∧ (0 ≤ V ∧ V ≤ 512) ∧ (16 + (16 + K + V) ≤ Z ∧ Z ≤ 8192) ∧ (2 * (16 + K + V + 16) ≤ W ∧ W ≤ 65536) ∧ (1 ≤ P ∧ P ≤ 2)) ∨ cfgE S Z R W K V P = 2 := by
  unfold cfgE
  by_cases h : cfgOK S Z R W K V P = true
  · rw [if_pos h]
    exact Or.inl ⟨rfl, (cfgOK_iff S Z R W K V P).1 h⟩
  · rw [if_neg h]
    exact Or.inr rfl

theorem cfgAt_two (w w1 : World) (S Z R W K V P : Int) (t t2 : TypeId) (o : Array Value) (hb : Below ((w.alloc (.cells #[.int .i64 S, .int .i64 Z, .int .i64 R, .int .i64 W, .int .i64 K, .int .i64 V, .int .i64 P] t)).alloc (.cells o t2)).heap.size ((w.alloc (.cells #[.int .i64 S, .int .i64 Z, .int .i64 R, .int .i64 W, .int .i64 K, .int .i64 V, .int .i64 P] t)).alloc (.cells o t2)) w1) :
    CfgAt w1 w.heap.size S Z R W K V P ∧ Below w.heap.size w w1 := by
  have hk := cfgAt_new w S Z R W K V P t
  obtain ⟨k0, k1, k2, k3, k4, k5, k6⟩ := hk
  refine ⟨⟨cell_kept (cell_old k0) hb, cell_kept (cell_old k1) hb, cell_kept (cell_old k2) hb, cell_kept (cell_old k3) hb, cell_kept (cell_old k4) hb, cell_kept (cell_old k5) hb, cell_kept (cell_old k6) hb⟩, ?_⟩
  exact (((Below.refl _ _).alloc (Nat.le_refl _) _).alloc (by simp) _).trans (hb.mono (by simp; omega))

set_option maxRecDepth 100000 in
set_option maxHeartbeats 4000000 in
theorem cRecord_any (S Z R W K V P : Int) (w : World) (v e : Int) (h : (v = 16 + K + V ∧ e = 0 ∧ cfgE S Z R W K V P = 0) ∨ (v = 0 ∧ e = 2 ∧ cfgE S Z R W K V P = 2)) :
    Calls Tryd.prog 10 #[cfgV S Z R W K V P] w fun x w' => x = .returned (.tuple #[.int .i64 v, .int .i64 e]) ∧ Below w.heap.size w w' := by
  rcases h with ⟨rfl, rfl, h⟩ | ⟨rfl, rfl, h⟩
  · rcases cfg_cases S Z R W K V P with ⟨_, h0, h1, h2, h3, h4, h5, h6⟩ | h'
    · have HE := Lib.hid h
      have HR := Lib.hid (recW_in h2.1 h2.2 h3.1 h3.2)
      clear h h0 h1 h2 h3 h4 h5 h6
      go_enter Tryd.func10, Tryd.ntmps10
      go_wp2_with fail
      go_in
      go_wp2_with fail
      refine (check_any S Z R W K V P _).mono ?_
      rw [HE.out]
      rintro e w1 ⟨rfl, b1⟩
      have hq := cfgAt_two _ _ _ _ _ _ _ _ _ _ _ _ b1
      have c1 := hq.2
      obtain ⟨k0, k1, k2, k3, k4, k5, k6⟩ := hq.1
      clear hq b1
      go_wp2_with fail
      go_in
      go_wp2_with fail
      refine (record_any S Z R W K V P _).mono ?_
      rw [HR.out]
      rintro e w2 ⟨rfl, b1⟩
      have c2 := c1.trans (b1.mono c1.size)
      clear b1 c1
      go_wp2_with fail
      go_ret2
      exact ⟨rfl, c2⟩
    · rw [h] at h'; cases h'
  · skip
    have HE := Lib.hid h
    clear h
    go_enter Tryd.func10, Tryd.ntmps10
    go_wp2_with fail
    go_in
    go_wp2_with fail
    refine (check_any S Z R W K V P _).mono ?_
    rw [HE.out]
    rintro e w1 ⟨rfl, b1⟩
    have hq := cfgAt_two _ _ _ _ _ _ _ _ _ _ _ _ b1
    have c1 := hq.2
    clear hq b1
    go_wp2_with fail
    go_ret2
    exact ⟨rfl, c1⟩

theorem room_any (S Z R W K V P : Int) (w : World) (h1 : 32 ≤ Z) (h2 : Z ≤ 8192) :
    Calls Tryd.prog 32 #[cfgV S Z R W K V P] w fun e w' => e = .returned (.int .i64 (Z - 16)) ∧ Below w.heap.size w w' := by
  go_enter Tryd.func32, Tryd.ntmps32
  go_wp2_with fail
  go_ret
  exact ⟨rfl, (Below.refl _ _).alloc (Nat.le_refl _) _⟩

set_option maxRecDepth 100000 in
set_option maxHeartbeats 4000000 in
theorem cRoom_any (S Z R W K V P : Int) (w : World) (v e : Int) (h : (v = Z - 16 ∧ e = 0 ∧ cfgE S Z R W K V P = 0) ∨ (v = 0 ∧ e = 2 ∧ cfgE S Z R W K V P = 2)) :
    Calls Tryd.prog 12 #[cfgV S Z R W K V P] w fun x w' => x = .returned (.tuple #[.int .i64 v, .int .i64 e]) ∧ Below w.heap.size w w' := by
  rcases h with ⟨rfl, rfl, h⟩ | ⟨rfl, rfl, h⟩
  · rcases cfg_cases S Z R W K V P with ⟨_, h0, h1, h2, h3, h4, h5, h6⟩ | h'
    · have HE := Lib.hid h
      have HR : Hid (32 ≤ Z ∧ Z ≤ 8192) := by show 32 ≤ Z ∧ Z ≤ 8192; omega
      clear h h0 h1 h2 h3 h4 h5 h6
      go_enter Tryd.func12, Tryd.ntmps12
      go_wp2_with fail
      go_in
      go_wp2_with fail
      refine (check_any S Z R W K V P _).mono ?_
      rw [HE.out]
      rintro e w1 ⟨rfl, b1⟩
      have hq := cfgAt_two _ _ _ _ _ _ _ _ _ _ _ _ b1
      have c1 := hq.2
      obtain ⟨k0, k1, k2, k3, k4, k5, k6⟩ := hq.1
      clear hq b1
      go_wp2_with fail
      go_in
      go_wp2_with fail
      refine (room_any S Z R W K V P _ HR.out.1 HR.out.2).mono ?_
      rintro e w2 ⟨rfl, b1⟩
      have c2 := c1.trans (b1.mono c1.size)
      clear b1 c1
      go_wp2_with fail
      go_ret2
      exact ⟨rfl, c2⟩
    · rw [h] at h'; cases h'
  · skip
    have HE := Lib.hid h
    clear h
    go_enter Tryd.func12, Tryd.ntmps12
    go_wp2_with fail
    go_in
    go_wp2_with fail
    refine (check_any S Z R W K V P _).mono ?_
    rw [HE.out]
    rintro e w1 ⟨rfl, b1⟩
    have hq := cfgAt_two _ _ _ _ _ _ _ _ _ _ _ _ b1
    have c1 := hq.2
    clear hq b1
    go_wp2_with fail
    go_ret2
    exact ⟨rfl, c1⟩
end Go.Proofs.YtllgnogiicdhfaaDoor
