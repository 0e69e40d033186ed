/-
  A configuration out of numbers: what Made computes is valid.
  Conditions: none.
-/
import Derived.Test.YtllgnogiicdhfaaDoorWorks17
import Derived.Test.YtllgnogiicdhfaaDoorOpen17
import Derived.BigRegion
set_option linter.unusedVariables false
namespace Go.Proofs.YtllgnogiicdhfaaDoor
open Go Go.RowKit

theorem arrAt_new (w : World) (n : Nat → Int) (t : TypeId) (i : Nat) (hi : i < 7) : (w.alloc (.cells #[.int .u32 (n 0), .int .u32 (n 1), .int .u32 (n 2), .int .u32 (n 3), .int .u32 (n 4), .int .u32 (n 5), .int .u32 (n 6)] t)).cell? ⟨w.heap.size, i, none⟩ = some (.int .u32 (n i)) := by
  rw [Lib.cell_of_heap (heap_alloc_new w _)]
  match i, hi with
  | 0, _ => rfl
  | 1, _ => rfl
  | 2, _ => rfl
  | 3, _ => rfl
  | 4, _ => rfl
  | 5, _ => rfl
  | 6, _ => rfl
/-- What is known behind the three allocations, and as the numbers are set. -/
def MQ (w : World) (n : Nat → Int) (L : List Int) (wr : World) : Prop :=
  (∀ i, i < 7 → wr.cell? ⟨w.heap.size, i, none⟩ = some (.int .u32 (n i))) ∧ (∀ j, j < 7 → wr.cell? ⟨w.heap.size + 1, j, none⟩ = some (.int .i64 0)) ∧ (∀ j, wr.frozen? ⟨w.heap.size + 1, j, none⟩ = false) ∧
  (∀ j, j < 7 → wr.cell? ⟨w.heap.size + 1 + 1, j, none⟩ = some (.int .i64 (L.getD j 0))) ∧ (∀ j, wr.frozen? ⟨w.heap.size + 1 + 1, j, none⟩ = false) ∧ Below w.heap.size w wr
theorem MQ.new (w : World) (n : Nat → Int) (t1 t2 t3 : TypeId) (a b c d e f g : Int) :
    MQ w n [a, b, c, d, e, f, g] (((w.alloc (.cells #[.int .u32 (n 0), .int .u32 (n 1), .int .u32 (n 2), .int .u32 (n 3), .int .u32 (n 4), .int .u32 (n 5), .int .u32 (n 6)] t1)).alloc (.cells #[.int .i64 0, .int .i64 0, .int .i64 0, .int .i64 0, .int .i64 0, .int .i64 0, .int .i64 0] t2)).alloc
      (.cells #[.int .i64 a, .int .i64 b, .int .i64 c, .int .i64 d, .int .i64 e, .int .i64 f, .int .i64 g] t3)) := by
  have e1 : (w.alloc (.cells #[.int .u32 (n 0), .int .u32 (n 1), .int .u32 (n 2), .int .u32 (n 3), .int .u32 (n 4), .int .u32 (n 5), .int .u32 (n 6)] t1)).heap.size = w.heap.size + 1 := by simp
  have e2 : ((w.alloc (.cells #[.int .u32 (n 0), .int .u32 (n 1), .int .u32 (n 2), .int .u32 (n 3), .int .u32 (n 4), .int .u32 (n 5), .int .u32 (n 6)] t1)).alloc (.cells #[.int .i64 0, .int .i64 0, .int .i64 0, .int .i64 0, .int .i64 0, .int .i64 0, .int .i64 0] t2)).heap.size = w.heap.size + 1 + 1 := by simp
  have hz := cfgAt_new (w.alloc (.cells #[.int .u32 (n 0), .int .u32 (n 1), .int .u32 (n 2), .int .u32 (n 3), .int .u32 (n 4), .int .u32 (n 5), .int .u32 (n 6)] t1)) 0 0 0 0 0 0 0 t2
  rw [e1] at hz
  have hc := cfgAt_new ((w.alloc (.cells #[.int .u32 (n 0), .int .u32 (n 1), .int .u32 (n 2), .int .u32 (n 3), .int .u32 (n 4), .int .u32 (n 5), .int .u32 (n 6)] t1)).alloc (.cells #[.int .i64 0, .int .i64 0, .int .i64 0, .int .i64 0, .int .i64 0, .int .i64 0, .int .i64 0] t2)) a b c d e f g t3
  rw [e2] at hc
  refine ⟨fun i hi => cell_old (cell_old (arrAt_new w n t1 i hi)), fun j hj => ?_, fun j => ?_, fun j hj => ?_, fun j => ?_, (((Below.refl _ _).alloc (Nat.le_refl _) _).alloc (by simp) _).alloc (by simp; omega) _⟩
  · obtain ⟨z0, z1, z2, z3, z4, z5, z6⟩ := hz
    match j, hj with
    | 0, _ => exact cell_old z0
    | 1, _ => exact cell_old z1
    | 2, _ => exact cell_old z2
    | 3, _ => exact cell_old z3
    | 4, _ => exact cell_old z4
    | 5, _ => exact cell_old z5
    | 6, _ => exact cell_old z6
  · refine Lib.frozen_of_heap (show _ = some (Obj.cells #[.int .i64 0, .int .i64 0, .int .i64 0, .int .i64 0, .int .i64 0, .int .i64 0, .int .i64 0] t2 (0, 0)) from ?_) j
    rw [Below.heap_alloc _ _ _ (by simp), ← e1, heap_alloc_new]
  · obtain ⟨z0, z1, z2, z3, z4, z5, z6⟩ := hc
    match j, hj with
    | 0, _ => exact z0
    | 1, _ => exact z1
    | 2, _ => exact z2
    | 3, _ => exact z3
    | 4, _ => exact z4
    | 5, _ => exact z5
    | 6, _ => exact z6
  · refine Lib.frozen_of_heap (show _ = some (Obj.cells #[.int .i64 a, .int .i64 b, .int .i64 c, .int .i64 d, .int .i64 e, .int .i64 f, .int .i64 g] t3 (0, 0)) from ?_) j
    rw [← e2, heap_alloc_new]
theorem MQ.drew {w wr : World} {n : Nat → Int} {L : List Int} (h : MQ w n L wr) : MQ w n L wr.drew := ⟨h.1, h.2.1, h.2.2.1, h.2.2.2.1, h.2.2.2.2.1, h.2.2.2.2.2.drew⟩
theorem MQ.set {w wr : World} {n : Nat → Int} {L : List Int} (h : MQ w n L wr) (hL : L.length = 7) (j : Nat) (hj : j < 7) (x : Int) : MQ w n (L.set j x) (wr.setCell ⟨w.heap.size + 1 + 1, j, none⟩ (.int .i64 x)) := by
  obtain ⟨h1, h2, h3, h4, h5, h6⟩ := h
  refine ⟨fun i hi => ?_, fun i hi => ?_, fun i => by rw [World.frozen?_setCell]; exact h3 i, fun i hi => ?_, fun i => by rw [World.frozen?_setCell]; exact h5 i, below_set h6 _ (by omega) _ _⟩
  · rw [World.cell?_setCell_other (h := by intro he; injection he with e1; omega)]; exact h1 i hi
  · rw [World.cell?_setCell_other (h := by intro he; injection he with e1; omega)]; exact h2 i hi
  · by_cases hij : j = i
    · subst hij
      rw [World.cell?_setCell_same (h := h4 j hi), List.getD, List.getElem?_set_self (by omega)]
      rfl
    · rw [World.cell?_setCell_other (h := by intro he; injection he with e1 e2; omega), h4 i hi, List.getD, List.getD, List.getElem?_set_ne hij]
theorem below_set7b {w w1 : World} {B : Nat} (h : Below B w w1) (b : Nat) (hb : B ≤ b) (v0 v1 v2 v3 v4 v5 v6 : Value) :
    Below B w (((((((w1.setCell ⟨b, 0, none⟩ v0).setCell ⟨b, 1, none⟩ v1).setCell ⟨b, 2, none⟩ v2).setCell ⟨b, 3, none⟩ v3).setCell ⟨b, 4, none⟩ v4).setCell ⟨b, 5, none⟩ v5).setCell ⟨b, 6, none⟩ v6) :=
  below_set (below_set (below_set (below_set (below_set (below_set (below_set h b hb 0 v0) b hb 1 v1) b hb 2 v2) b hb 3 v3) b hb 4 v4) b hb 5 v5) b hb 6 v6
theorem rem_in {x y : Int} (h0 : 0 ≤ x) (hy : 0 < y) : x.tmod y = x % y ∧ 0 ≤ x % y ∧ x % y < y :=
  ⟨Int.tmod_eq_emod_of_nonneg h0, Int.emod_nonneg _ (by omega), Int.emod_lt_of_pos _ hy⟩
set_option maxRecDepth 100000 in
set_option maxHeartbeats 8000000 in
theorem made_any (n : Nat → Int) (hn : ∀ i, i < 7 → 0 ≤ n i ∧ n i < 4294967296) : ∃ S Z R W K V P, cfgE S Z R W K V P = 0 ∧ ∀ w : World,
    Calls Tryd.prog 25 #[arrV n] w fun e w' => e = .returned (cfgV S Z R W K V P) ∧ Below w.heap.size w w' := by
  obtain ⟨t0, a0, b0⟩ := rem_in (hn 0 (by decide)).1 (show (0 : Int) < 7 by decide)
  obtain ⟨t1, a1, b1⟩ := rem_in (hn 1 (by decide)).1 (show (0 : Int) < 32 by decide)
  obtain ⟨t2, a2, b2⟩ := rem_in (hn 2 (by decide)).1 (show (0 : Int) < 513 by decide)
  obtain ⟨t3, a3, b3⟩ := rem_in (hn 3 (by decide)).1 (show (0 : Int) < 2 by decide)
  generalize n 0 % 7 = r0 at *
  generalize n 1 % 32 = r1 at *
  generalize n 2 % 513 = r2 at *
  generalize n 3 % 2 = r3 at *
  obtain ⟨t4, a4, b4⟩ := rem_in (hn 4 (by decide)).1 (show 0 < 29 - r0 by omega)
  obtain ⟨t5, a5, b5⟩ := rem_in (hn 5 (by decide)).1 (show 0 < 8160 - r1 - r2 by omega)
  obtain ⟨t6, a6, b6⟩ := rem_in (hn 6 (by decide)).1 (show 0 < 65471 - 2 * r1 - 2 * r2 by omega)
  obtain ⟨r4, t4'⟩ : ∃ r, n 4 % (29 - r0) = r := ⟨_, rfl⟩
  rw [t4'] at t4 a4 b4
  obtain ⟨r5, t5'⟩ : ∃ r, n 5 % (8160 - r1 - r2) = r := ⟨_, rfl⟩
  rw [t5'] at t5 a5 b5
  obtain ⟨r6, t6'⟩ : ∃ r, n 6 % (65471 - 2 * r1 - 2 * r2) = r := ⟨_, rfl⟩
  rw [t6'] at t6 a6 b6
  have n4 := hn 4 (by decide)
  have n5 := hn 5 (by decide)
  have n6 := hn 6 (by decide)
  refine ⟨4 + r0 + r4, 33 + r1 + r2 + r5, 2 + r0, 66 + 2 * r1 + 2 * r2 + r6, 1 + r1, r2, 1 + r3, ?_, fun w => ?_⟩
  · unfold cfgE
    rw [if_pos]
    rw [cfgOK_iff]
    omega
  · have h0 := arrAt_new w n 36 0 (by decide)
    have h1 := arrAt_new w n 36 1 (by decide)
    have h2 := arrAt_new w n 36 2 (by decide)
    have h3 := arrAt_new w n 36 3 (by decide)
    have h4 := arrAt_new w n 36 4 (by decide)
    have h5 := arrAt_new w n 36 5 (by decide)
    have h6 := arrAt_new w n 36 6 (by decide)
    clear hn
    go_enter Tryd.func25, Tryd.ntmps25
    go_wp2_with fail
    have hq := MQ.new w n 36 23 23 0 0 (2 + r0) 0 (1 + r1) r2 (1 + r3)
    generalize (((w.alloc (.cells #[.int .u32 (n 0), .int .u32 (n 1), .int .u32 (n 2), .int .u32 (n 3), .int .u32 (n 4), .int .u32 (n 5), .int .u32 (n 6)] 36)).alloc (.cells #[.int .i64 0, .int .i64 0, .int .i64 0, .int .i64 0, .int .i64 0, .int .i64 0, .int .i64 0] 23)).alloc
      (.cells #[.int .i64 0, .int .i64 0, .int .i64 (2 + r0), .int .i64 0, .int .i64 (1 + r1), .int .i64 r2, .int .i64 (1 + r3)] 23)) = w3 at *
    have HQ := Lib.hid hq
    obtain ⟨hA, _, _, hC, hCf, _⟩ := hq
    clear h0 h1 h2 h3 h4 h5 h6
    have g4 := hA 4 (by decide)
    have f0 := hCf 0
    have k0 : w3.cell? ⟨w.heap.size + 1 + 1, 0, none⟩ = some (.int .i64 0) := hC 0 (by decide)
    have k2 : w3.cell? ⟨w.heap.size + 1 + 1, 2, none⟩ = some (.int .i64 (2 + r0)) := hC 2 (by decide)
    clear hA hC hCf
    go_region
    have e4 : wrap64 (2 + r0 + 2 + n 4 % (32 - (2 + r0) - 1)) = 4 + r0 + r4 := by
      rw [show 32 - (2 + r0) - 1 = 29 - r0 by omega, t4', IntWalk.wrap64_in _ (by omega)]
      omega
    rw [e4]
    have HQ2 := Lib.hid (HQ.out.set rfl 0 (by decide) (4 + r0 + r4)).drew
    generalize (w3.setCell ⟨w.heap.size + 1 + 1, 0, none⟩ (.int .i64 (4 + r0 + r4))).drew = w4 at *
    clear HQ g4 f0 k0 k2 e4
    have g5 := HQ2.out.1 5 (by decide)
    have f1 := HQ2.out.2.2.2.2.1 1
    have k1 : w4.cell? ⟨w.heap.size + 1 + 1, 1, none⟩ = some (.int .i64 0) := HQ2.out.2.2.2.1 1 (by decide)
    have k4 : w4.cell? ⟨w.heap.size + 1 + 1, 4, none⟩ = some (.int .i64 (1 + r1)) := HQ2.out.2.2.2.1 4 (by decide)
    have k5 : w4.cell? ⟨w.heap.size + 1 + 1, 5, none⟩ = some (.int .i64 r2) := HQ2.out.2.2.2.1 5 (by decide)
    have e5 : wrap64 (16 + (16 + (1 + r1) + r2) + n 5 % (8176 - (16 + (1 + r1) + r2) + 1)) = 33 + r1 + r2 + r5 := by
      rw [show 8176 - (16 + (1 + r1) + r2) + 1 = 8160 - r1 - r2 by omega, t5', IntWalk.wrap64_in _ (by omega)]
      omega
    have e6 : wrap64 (2 * (16 + (1 + r1) + r2 + 16) + n 6 % (65536 - 2 * (16 + (1 + r1) + r2 + 16) + 1)) = 66 + 2 * r1 + 2 * r2 + r6 := by
      rw [show 65536 - 2 * (16 + (1 + r1) + r2 + 16) + 1 = 65471 - 2 * r1 - 2 * r2 by omega, t6', IntWalk.wrap64_in _ (by omega)]
      omega
    have HQ3 := Lib.hid (HQ2.out.set rfl 1 (by decide) (33 + r1 + r2 + r5))
    have g6 := HQ3.out.1 6 (by decide)
    have f3 := HQ3.out.2.2.2.2.1 3
    have k3 : (w4.setCell ⟨w.heap.size + 1 + 1, 1, none⟩ (.int .i64 (33 + r1 + r2 + r5))).cell? ⟨w.heap.size + 1 + 1, 3, none⟩ = some (.int .i64 0) := HQ3.out.2.2.2.1 3 (by decide)
    have HQ4 := Lib.hid (HQ3.out.set rfl 3 (by decide) (66 + 2 * r1 + 2 * r2 + r6))
    have m0 : ((w4.setCell ⟨w.heap.size + 1 + 1, 1, none⟩ (.int .i64 (33 + r1 + r2 + r5))).setCell ⟨w.heap.size + 1 + 1, 3, none⟩ (.int .i64 (66 + 2 * r1 + 2 * r2 + r6))).cell? ⟨w.heap.size + 1 + 1, 0, none⟩ = some (.int .i64 (4 + r0 + r4)) := HQ4.out.2.2.2.1 0 (by decide)
    have m1 : ((w4.setCell ⟨w.heap.size + 1 + 1, 1, none⟩ (.int .i64 (33 + r1 + r2 + r5))).setCell ⟨w.heap.size + 1 + 1, 3, none⟩ (.int .i64 (66 + 2 * r1 + 2 * r2 + r6))).cell? ⟨w.heap.size + 1 + 1, 1, none⟩ = some (.int .i64 (33 + r1 + r2 + r5)) := HQ4.out.2.2.2.1 1 (by decide)
    have m2 : ((w4.setCell ⟨w.heap.size + 1 + 1, 1, none⟩ (.int .i64 (33 + r1 + r2 + r5))).setCell ⟨w.heap.size + 1 + 1, 3, none⟩ (.int .i64 (66 + 2 * r1 + 2 * r2 + r6))).cell? ⟨w.heap.size + 1 + 1, 2, none⟩ = some (.int .i64 (2 + r0)) := HQ4.out.2.2.2.1 2 (by decide)
    have m3 : ((w4.setCell ⟨w.heap.size + 1 + 1, 1, none⟩ (.int .i64 (33 + r1 + r2 + r5))).setCell ⟨w.heap.size + 1 + 1, 3, none⟩ (.int .i64 (66 + 2 * r1 + 2 * r2 + r6))).cell? ⟨w.heap.size + 1 + 1, 3, none⟩ = some (.int .i64 (66 + 2 * r1 + 2 * r2 + r6)) := HQ4.out.2.2.2.1 3 (by decide)
    have m4 : ((w4.setCell ⟨w.heap.size + 1 + 1, 1, none⟩ (.int .i64 (33 + r1 + r2 + r5))).setCell ⟨w.heap.size + 1 + 1, 3, none⟩ (.int .i64 (66 + 2 * r1 + 2 * r2 + r6))).cell? ⟨w.heap.size + 1 + 1, 4, none⟩ = some (.int .i64 (1 + r1)) := HQ4.out.2.2.2.1 4 (by decide)
    have m5 : ((w4.setCell ⟨w.heap.size + 1 + 1, 1, none⟩ (.int .i64 (33 + r1 + r2 + r5))).setCell ⟨w.heap.size + 1 + 1, 3, none⟩ (.int .i64 (66 + 2 * r1 + 2 * r2 + r6))).cell? ⟨w.heap.size + 1 + 1, 5, none⟩ = some (.int .i64 (r2)) := HQ4.out.2.2.2.1 5 (by decide)
    have m6 : ((w4.setCell ⟨w.heap.size + 1 + 1, 1, none⟩ (.int .i64 (33 + r1 + r2 + r5))).setCell ⟨w.heap.size + 1 + 1, 3, none⟩ (.int .i64 (66 + 2 * r1 + 2 * r2 + r6))).cell? ⟨w.heap.size + 1 + 1, 6, none⟩ = some (.int .i64 (1 + r3)) := HQ4.out.2.2.2.1 6 (by decide)
    have r0x : ((w4.setCell ⟨w.heap.size + 1 + 1, 1, none⟩ (.int .i64 (33 + r1 + r2 + r5))).setCell ⟨w.heap.size + 1 + 1, 3, none⟩ (.int .i64 (66 + 2 * r1 + 2 * r2 + r6))).cell? ⟨w.heap.size + 1, 0, none⟩ = some (.int .i64 0) := HQ4.out.2.1 0 (by decide)
    have f0x := HQ4.out.2.2.1 0
    have r1x : ((w4.setCell ⟨w.heap.size + 1 + 1, 1, none⟩ (.int .i64 (33 + r1 + r2 + r5))).setCell ⟨w.heap.size + 1 + 1, 3, none⟩ (.int .i64 (66 + 2 * r1 + 2 * r2 + r6))).cell? ⟨w.heap.size + 1, 1, none⟩ = some (.int .i64 0) := HQ4.out.2.1 1 (by decide)
    have f1x := HQ4.out.2.2.1 1
    have r2x : ((w4.setCell ⟨w.heap.size + 1 + 1, 1, none⟩ (.int .i64 (33 + r1 + r2 + r5))).setCell ⟨w.heap.size + 1 + 1, 3, none⟩ (.int .i64 (66 + 2 * r1 + 2 * r2 + r6))).cell? ⟨w.heap.size + 1, 2, none⟩ = some (.int .i64 0) := HQ4.out.2.1 2 (by decide)
    have f2x := HQ4.out.2.2.1 2
    have r3x : ((w4.setCell ⟨w.heap.size + 1 + 1, 1, none⟩ (.int .i64 (33 + r1 + r2 + r5))).setCell ⟨w.heap.size + 1 + 1, 3, none⟩ (.int .i64 (66 + 2 * r1 + 2 * r2 + r6))).cell? ⟨w.heap.size + 1, 3, none⟩ = some (.int .i64 0) := HQ4.out.2.1 3 (by decide)
    have f3x := HQ4.out.2.2.1 3
    have r4x : ((w4.setCell ⟨w.heap.size + 1 + 1, 1, none⟩ (.int .i64 (33 + r1 + r2 + r5))).setCell ⟨w.heap.size + 1 + 1, 3, none⟩ (.int .i64 (66 + 2 * r1 + 2 * r2 + r6))).cell? ⟨w.heap.size + 1, 4, none⟩ = some (.int .i64 0) := HQ4.out.2.1 4 (by decide)
    have f4x := HQ4.out.2.2.1 4
    have r5x : ((w4.setCell ⟨w.heap.size + 1 + 1, 1, none⟩ (.int .i64 (33 + r1 + r2 + r5))).setCell ⟨w.heap.size + 1 + 1, 3, none⟩ (.int .i64 (66 + 2 * r1 + 2 * r2 + r6))).cell? ⟨w.heap.size + 1, 5, none⟩ = some (.int .i64 0) := HQ4.out.2.1 5 (by decide)
    have f5x := HQ4.out.2.2.1 5
    have r6x : ((w4.setCell ⟨w.heap.size + 1 + 1, 1, none⟩ (.int .i64 (33 + r1 + r2 + r5))).setCell ⟨w.heap.size + 1 + 1, 3, none⟩ (.int .i64 (66 + 2 * r1 + 2 * r2 + r6))).cell? ⟨w.heap.size + 1, 6, none⟩ = some (.int .i64 0) := HQ4.out.2.1 6 (by decide)
    have f6x := HQ4.out.2.2.1 6
    go_wp2_with fail
    refine bodyPost_ret (v := cfgV (4 + r0 + r4) (33 + r1 + r2 + r5) (2 + r0) (66 + 2 * r1 + 2 * r2 + r6) (1 + r1) r2 (1 + r3)) (by simp [results, Tryd.results25, go_sem, r0x, r1x, r2x, r3x, r4x, r5x, r6x]) rfl ⟨rfl, ?_⟩
    exact below_set7b HQ4.out.2.2.2.2.2 _ (by omega) _ _ _ _ _ _ _
end Go.Proofs.YtllgnogiicdhfaaDoor
