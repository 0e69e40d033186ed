/-
  Configurations: what is refused.
  Conditions: the library's tables lie in the world.
-/
import Derived.Test.YtllgnogiicdhfaaDoorWalks17c
set_option linter.unusedVariables false
namespace Go.Proofs.YtllgnogiicdhfaaDoor
open Go Go.RowKit

set_option maxRecDepth 100000 in
set_option maxHeartbeats 8000000 in
theorem walkConfigRefuses (n : Nat → Int) (hn : ∀ i, i < 7 → 0 ≤ n i ∧ n i < 4294967296) (x : Int) (hx : (Lit.int .u8 x).wf = true) (y : Int) (hy : (Lit.int .u16 y).wf = true) (m : Int) (w : World) (ht : Tab w) (hm : w.cell? ⟨0, 0, none⟩ = some (.int .i64 m)) :
    Calls Tryd.prog 9 #[arrV n, .int .u8 x, .int .u16 y] w fun e w' => e = .returned (.bool true) ∧ Below w.heap.size w w' := by
  have HT := Lib.hid ht
  have HM := Lib.hid hm
  obtain ⟨S, Z, R, W, K, V, P, hE, hmd⟩ := made_any n hn
  have HMD := Lib.hid hmd
  obtain ⟨x1, x2⟩ := u8_in hx
  obtain ⟨y1, y2⟩ := u16_in hy
  obtain ⟨r, hr⟩ : ∃ r, x.tmod 7 = r := ⟨_, rfl⟩
  have hr1 : 0 ≤ r ∧ r < 7 := by
    rw [← hr, Int.tmod_eq_emod_of_nonneg x1]
    exact ⟨Int.emod_nonneg _ (by decide), Int.emod_lt_of_pos _ (by decide)⟩
  clear ht hm hx hy hn hmd
  rcases cfg_cases S Z R W K V P with ⟨_, h0, h1, h2, h3, h4, h5, h6⟩ | h'
  · have HCF := Lib.hid (show (2 ≤ R ∧ R ≤ 8) ∧ (R + 2 ≤ S ∧ S ≤ 32) ∧ (1 ≤ K ∧ K ≤ 32) ∧ (0 ≤ V ∧ V ≤ 512) ∧ (16 + (16 + K + V) ≤ Z ∧ Z ≤ 8192) ∧ (2 * (16 + K + V + 16) ≤ W ∧ W ≤ 65536) ∧ (1 ≤ P ∧ P ≤ 2) from ⟨h0, h1, h2, h3, h4, h5, h6⟩)
    have g1 : 2 ≤ R := h0.1
    have g2 : R ≤ 8 := h0.2
    have g5 : 1 ≤ K := h2.1
    have g6 : K ≤ 32 := h2.2
    have g7 : 0 ≤ V := h3.1
    have g8 : V ≤ 512 := h3.2
    have HG1 := Lib.hid (cfgE_good (S := R + 2) (Z := 16 + (16 + K + V)) (R := R) (W := 2 * (16 + K + V) + 32) (K := K) (V := V) (P := P) (by omega))
    have HG2 := Lib.hid (cfgE_good (S := 32) (Z := 8192) (R := R) (W := 65536) (K := K) (V := V) (P := P) (by omega))
    clear h0 h1 h2 h3 h4 h5 h6
    have a0 := arrAt_new w n 36 0 (by decide)
    have a1 := arrAt_new w n 36 1 (by decide)
    have a2 := arrAt_new w n 36 2 (by decide)
    have a3 := arrAt_new w n 36 3 (by decide)
    have a4 := arrAt_new w n 36 4 (by decide)
    have a5 := arrAt_new w n 36 5 (by decide)
    have a6 := arrAt_new w n 36 6 (by decide)
    have c1 : Below w.heap.size w (w.alloc (.cells #[.int .u32 (n 0), .int .u32 (n 1), .int .u32 (n 2), .int .u32 (n 3), .int .u32 (n 4), .int .u32 (n 5), .int .u32 (n 6)] 36)) := (Below.refl _ _).alloc (Nat.le_refl _) _
    go_enter Tryd.func9, Tryd.ntmps9
    go_wp2_with fail
    refine (HMD.out _).mono ?_
    rintro y w1 ⟨rfl, b1⟩
    have c2 := c1.trans (b1.mono c1.size); clear c1 b1
    have c1 := c2; clear c2
    have hsz := c1.size
    clear a0 a1 a2 a3 a4 a5 a6
    obtain ⟨k0, k1, k2, k3, k4, k5, k6⟩ := cfgAt_new w1 S Z R W K V P 23
    have c2 := c1.alloc c1.size (.cells #[.int .i64 S, .int .i64 Z, .int .i64 R, .int .i64 W, .int .i64 K, .int .i64 V, .int .i64 P] 23); clear c1
    have c1 := c2; clear c2
    go_wp2_with fail
    have hlt : w.heap.size ≤ w1.heap.size := hsz
    have hC : w1.heap.size < (w1.alloc (.cells #[.int .i64 S, .int .i64 Z, .int .i64 R, .int .i64 W, .int .i64 K, .int .i64 V, .int .i64 P] 23)).heap.size := by rw [World.size_alloc]; omega
    obtain ⟨C, hCe⟩ : ∃ C, w1.heap.size = C := ⟨_, rfl⟩
    rw [hCe] at k0 k1 k2 k3 k4 k5 k6 hC hlt ⊢
    generalize w1.alloc (.cells #[.int .i64 S, .int .i64 Z, .int .i64 R, .int .i64 W, .int .i64 K, .int .i64 V, .int .i64 P] 23) = w2 at *
    clear hCe hsz
    have HD := Lib.hid (DQ.new ⟨k0, k1, k2, k3, k4, k5, k6⟩ c1 23 23)
    go_cut [10, 11] from 36 to 37 (fun a b wc => ∃ B1 B2, a = .pointer (some ⟨B1, 0, none⟩) ∧ b = .pointer (some ⟨B2, 0, none⟩) ∧ Hid (DQ w C B1 B2 [S, Z, R, W, K, V, P] [S, Z, R, W, K, V, P] [S, Z, R, W, K, V, P] wc) ∧ B1 ≠ B2 ∧ C ≠ B1 ∧ C ≠ B2 ∧ w.heap.size ≤ B1 ∧ w.heap.size ≤ B2)
    case first =>
      go_region
      all_goals (go_wp2_with fail; go_meet; first | exact ⟨_, _, rfl, rfl, HD, by omega, by omega, by omega, by omega, by omega⟩ | exact ⟨_, _, rfl, rfl, Lib.hid HD.out.swap, by omega, by omega, by omega, by omega, by omega⟩)
    case rest =>
      obtain ⟨B1, B2, rfl, rfl, hD, n1, n2, n3, n4, n5⟩ := hcut
      clear HD k0 k1 k2 k3 k4 k5 k6 c1 hC
      go_upto_block 0 with fail
      go_cut [] from 40 to 101 (fun wd => ∃ l h : List Int, l.length = 7 ∧ h.length = 7 ∧ Hid (DQ w C B1 B2 [S, Z, R, W, K, V, P] l h wd) ∧ Hid (cfgE (l.getD 0 0) (l.getD 1 0) (l.getD 2 0) (l.getD 3 0) (l.getD 4 0) (l.getD 5 0) (l.getD 6 0) = 2) ∧ Hid (cfgE (h.getD 0 0) (h.getD 1 0) (h.getD 2 0) (h.getD 3 0) (h.getD 4 0) (h.getD 5 0) (h.getD 6 0) = 2))
      case first =>
        rcases (show r = 0 ∨ r = 1 ∨ r = 2 ∨ r = 3 ∨ r = 4 ∨ r = 5 ∨ r = 6 by omega) with rfl | rfl | rfl | rfl | rfl | rfl | rfl
        · have a1 : wc.cell? ⟨B1, 0, none⟩ = some _ := hD.out.2.1 0 (by decide)
          have f1 := hD.out.2.2.2.1 0
          have hD1 := Lib.hid (hD.out.set1 n4 n2 n1 rfl 0 (by decide) (R + 1 - y))
          have a2 : (wc.setCell ⟨B1, 0, none⟩ (.int .i64 (R + 1 - y))).cell? ⟨B2, 0, none⟩ = some _ := hD1.out.2.2.1 0 (by decide)
          have f2 := hD1.out.2.2.2.2.1 0
          have cr : wc.cell? ⟨C, 2, none⟩ = some (.int .i64 R) := hD.out.1 2 (by decide)
          have hD2 := Lib.hid (hD1.out.set2 n5 n3 n1 rfl 0 (by decide) (33 + y))
          have HF := HCF
          clear HCF hD hD1
          go_wp2_with fail
          go_meet
          refine ⟨_, _, rfl, rfl, hD2, ?_, ?_⟩
          · have := HF.out
            exact Lib.hid (cfgE_bad (by show ¬ _; simp only [List.set, List.getD, List.getElem?_cons_zero, List.getElem?_cons_succ, Option.getD_some]; omega))
          · have := HF.out
            exact Lib.hid (cfgE_bad (by show ¬ _; simp only [List.set, List.getD, List.getElem?_cons_zero, List.getElem?_cons_succ, Option.getD_some]; omega))
        · have a1 : wc.cell? ⟨B1, 1, none⟩ = some _ := hD.out.2.1 1 (by decide)
          have f1 := hD.out.2.2.2.1 1
          have hD1 := Lib.hid (hD.out.set1 n4 n2 n1 rfl 1 (by decide) (15 + (16 + K + V) - y))
          have a2 : (wc.setCell ⟨B1, 1, none⟩ (.int .i64 (15 + (16 + K + V) - y))).cell? ⟨B2, 1, none⟩ = some _ := hD1.out.2.2.1 1 (by decide)
          have f2 := hD1.out.2.2.2.2.1 1
          have cr : wc.cell? ⟨C, 2, none⟩ = some (.int .i64 R) := hD.out.1 2 (by decide)
          have hD2 := Lib.hid (hD1.out.set2 n5 n3 n1 rfl 1 (by decide) (8193 + y))
          have HF := HCF
          clear HCF hD hD1
          go_wp2_with fail
          go_meet
          refine ⟨_, _, rfl, rfl, hD2, ?_, ?_⟩
          · have := HF.out
            exact Lib.hid (cfgE_bad (by show ¬ _; simp only [List.set, List.getD, List.getElem?_cons_zero, List.getElem?_cons_succ, Option.getD_some]; omega))
          · have := HF.out
            exact Lib.hid (cfgE_bad (by show ¬ _; simp only [List.set, List.getD, List.getElem?_cons_zero, List.getElem?_cons_succ, Option.getD_some]; omega))
        · have a1 : wc.cell? ⟨B1, 2, none⟩ = some _ := hD.out.2.1 2 (by decide)
          have f1 := hD.out.2.2.2.1 2
          have hD1 := Lib.hid (hD.out.set1 n4 n2 n1 rfl 2 (by decide) (1 - y))
          have a2 : (wc.setCell ⟨B1, 2, none⟩ (.int .i64 (1 - y))).cell? ⟨B2, 2, none⟩ = some _ := hD1.out.2.2.1 2 (by decide)
          have f2 := hD1.out.2.2.2.2.1 2
          have cr : wc.cell? ⟨C, 2, none⟩ = some (.int .i64 R) := hD.out.1 2 (by decide)
          have hD2 := Lib.hid (hD1.out.set2 n5 n3 n1 rfl 2 (by decide) (9 + y))
          have HF := HCF
          clear HCF hD hD1
          go_wp2_with fail
          go_meet
          refine ⟨_, _, rfl, rfl, hD2, ?_, ?_⟩
          · have := HF.out
            exact Lib.hid (cfgE_bad (by show ¬ _; simp only [List.set, List.getD, List.getElem?_cons_zero, List.getElem?_cons_succ, Option.getD_some]; omega))
          · have := HF.out
            exact Lib.hid (cfgE_bad (by show ¬ _; simp only [List.set, List.getD, List.getElem?_cons_zero, List.getElem?_cons_succ, Option.getD_some]; omega))
        · have a1 : wc.cell? ⟨B1, 3, none⟩ = some _ := hD.out.2.1 3 (by decide)
          have f1 := hD.out.2.2.2.1 3
          have hD1 := Lib.hid (hD.out.set1 n4 n2 n1 rfl 3 (by decide) (2 * (16 + K + V) + 31 - y))
          have a2 : (wc.setCell ⟨B1, 3, none⟩ (.int .i64 (2 * (16 + K + V) + 31 - y))).cell? ⟨B2, 3, none⟩ = some _ := hD1.out.2.2.1 3 (by decide)
          have f2 := hD1.out.2.2.2.2.1 3
          have cr : wc.cell? ⟨C, 2, none⟩ = some (.int .i64 R) := hD.out.1 2 (by decide)
          have hD2 := Lib.hid (hD1.out.set2 n5 n3 n1 rfl 3 (by decide) (65537 + y))
          have HF := HCF
          clear HCF hD hD1
          go_wp2_with fail
          go_meet
          refine ⟨_, _, rfl, rfl, hD2, ?_, ?_⟩
          · have := HF.out
            exact Lib.hid (cfgE_bad (by show ¬ _; simp only [List.set, List.getD, List.getElem?_cons_zero, List.getElem?_cons_succ, Option.getD_some]; omega))
          · have := HF.out
            exact Lib.hid (cfgE_bad (by show ¬ _; simp only [List.set, List.getD, List.getElem?_cons_zero, List.getElem?_cons_succ, Option.getD_some]; omega))
        · have a1 : wc.cell? ⟨B1, 4, none⟩ = some _ := hD.out.2.1 4 (by decide)
          have f1 := hD.out.2.2.2.1 4
          have hD1 := Lib.hid (hD.out.set1 n4 n2 n1 rfl 4 (by decide) (-y))
          have a2 : (wc.setCell ⟨B1, 4, none⟩ (.int .i64 (-y))).cell? ⟨B2, 4, none⟩ = some _ := hD1.out.2.2.1 4 (by decide)
          have f2 := hD1.out.2.2.2.2.1 4
          have cr : wc.cell? ⟨C, 2, none⟩ = some (.int .i64 R) := hD.out.1 2 (by decide)
          have hD2 := Lib.hid (hD1.out.set2 n5 n3 n1 rfl 4 (by decide) (33 + y))
          have HF := HCF
          clear HCF hD hD1
          go_wp2_with fail
          go_meet
          refine ⟨_, _, rfl, rfl, hD2, ?_, ?_⟩
          · have := HF.out
            exact Lib.hid (cfgE_bad (by show ¬ _; simp only [List.set, List.getD, List.getElem?_cons_zero, List.getElem?_cons_succ, Option.getD_some]; omega))
          · have := HF.out
            exact Lib.hid (cfgE_bad (by show ¬ _; simp only [List.set, List.getD, List.getElem?_cons_zero, List.getElem?_cons_succ, Option.getD_some]; omega))
        · have a1 : wc.cell? ⟨B1, 5, none⟩ = some _ := hD.out.2.1 5 (by decide)
          have f1 := hD.out.2.2.2.1 5
          have hD1 := Lib.hid (hD.out.set1 n4 n2 n1 rfl 5 (by decide) (-1 - y))
          have a2 : (wc.setCell ⟨B1, 5, none⟩ (.int .i64 (-1 - y))).cell? ⟨B2, 5, none⟩ = some _ := hD1.out.2.2.1 5 (by decide)
          have f2 := hD1.out.2.2.2.2.1 5
          have cr : wc.cell? ⟨C, 2, none⟩ = some (.int .i64 R) := hD.out.1 2 (by decide)
          have hD2 := Lib.hid (hD1.out.set2 n5 n3 n1 rfl 5 (by decide) (513 + y))
          have HF := HCF
          clear HCF hD hD1
          go_wp2_with fail
          go_meet
          refine ⟨_, _, rfl, rfl, hD2, ?_, ?_⟩
          · have := HF.out
            exact Lib.hid (cfgE_bad (by show ¬ _; simp only [List.set, List.getD, List.getElem?_cons_zero, List.getElem?_cons_succ, Option.getD_some]; omega))
          · have := HF.out
            exact Lib.hid (cfgE_bad (by show ¬ _; simp only [List.set, List.getD, List.getElem?_cons_zero, List.getElem?_cons_succ, Option.getD_some]; omega))
        · have a1 : wc.cell? ⟨B1, 6, none⟩ = some _ := hD.out.2.1 6 (by decide)
          have f1 := hD.out.2.2.2.1 6
          have hD1 := Lib.hid (hD.out.set1 n4 n2 n1 rfl 6 (by decide) (-y))
          have a2 : (wc.setCell ⟨B1, 6, none⟩ (.int .i64 (-y))).cell? ⟨B2, 6, none⟩ = some _ := hD1.out.2.2.1 6 (by decide)
          have f2 := hD1.out.2.2.2.2.1 6
          have cr : wc.cell? ⟨C, 2, none⟩ = some (.int .i64 R) := hD.out.1 2 (by decide)
          have hD2 := Lib.hid (hD1.out.set2 n5 n3 n1 rfl 6 (by decide) (3 + y))
          have HF := HCF
          clear HCF hD hD1
          go_wp2_with fail
          go_meet
          refine ⟨_, _, rfl, rfl, hD2, ?_, ?_⟩
          · have := HF.out
            exact Lib.hid (cfgE_bad (by show ¬ _; simp only [List.set, List.getD, List.getElem?_cons_zero, List.getElem?_cons_succ, Option.getD_some]; omega))
          · have := HF.out
            exact Lib.hid (cfgE_bad (by show ¬ _; simp only [List.set, List.getD, List.getElem?_cons_zero, List.getElem?_cons_succ, Option.getD_some]; omega))
      case rest =>
        obtain ⟨l, h, hl, hh, hD2, hB1, hB2⟩ := hcut
        clear hD hr hr1
        obtain ⟨l0, l1, l2, l3, l4, l5, l6, rfl⟩ := list7 hl
        obtain ⟨h0, h1, h2, h3, h4, h5, h6, rfl⟩ := list7 hh
        have HB1 : Hid (cfgE l0 l1 l2 l3 l4 l5 l6 = 2) := hB1
        have HB2 : Hid (cfgE h0 h1 h2 h3 h4 h5 h6 = 2) := hB2
        clear hl hh hB1 hB2
        obtain ⟨p0, p1, p2, p3, p4, p5, p6⟩ := hD2.out.cfg1
        obtain ⟨q0, q1, q2, q3, q4, q5, q6⟩ := hD2.out.swap.cfg1
        have hF0 := Lib.hid (FQ.new hD2.out.cfg0 hD2.out.2.2.2.2.2 [l0, l1, l2, l3, l4, l5, l6, h0, h1, h2, h3, h4, h5, h6] rfl 23)
        go_wp2_with fail
        obtain ⟨A, hA⟩ : ∃ A, wc.heap.size = A := ⟨_, rfl⟩
        rw [hA] at hF0 ⊢
        clear hA p0 p1 p2 p3 p4 p5 p6 q0 q1 q2 q3 q4 q5 q6 hD2
        go_loopw [106] (fun vi wr => ∃ i : Nat, i ≤ 2 ∧ vi = .int .i64 i ∧ Hid (FQ w C A S Z R W K V P [l0, l1, l2, l3, l4, l5, l6, h0, h1, h2, h3, h4, h5, h6] wr)) (fun vi _ => 2 - (intOf vi).toNat)
        case atStart => exact ⟨0, by decide, rfl, hF0⟩
        case round =>
          clear hF0
          obtain ⟨i, hi, rfl, hF⟩ := hrel
          rcases (show i = 0 ∨ i = 1 ∨ i = 2 by omega) with rfl | rfl | rfl
          · have q0 : wr.cell? ⟨A, 0, none⟩ = some (.int .i64 l0) := hF.out.2.1 0 (by decide)
            have q1 : wr.cell? ⟨A, 1, none⟩ = some (.int .i64 l1) := hF.out.2.1 1 (by decide)
            have q2 : wr.cell? ⟨A, 2, none⟩ = some (.int .i64 l2) := hF.out.2.1 2 (by decide)
            have q3 : wr.cell? ⟨A, 3, none⟩ = some (.int .i64 l3) := hF.out.2.1 3 (by decide)
            have q4 : wr.cell? ⟨A, 4, none⟩ = some (.int .i64 l4) := hF.out.2.1 4 (by decide)
            have q5 : wr.cell? ⟨A, 5, none⟩ = some (.int .i64 l5) := hF.out.2.1 5 (by decide)
            have q6 : wr.cell? ⟨A, 6, none⟩ = some (.int .i64 l6) := hF.out.2.1 6 (by decide)
            obtain ⟨m0, m1, m2, m3, m4, m5, m6⟩ := cfgAt_new wr l0 l1 l2 l3 l4 l5 l6 23
            have c1 : Below wr.heap.size wr (wr.alloc (.cells #[.int .i64 l0, .int .i64 l1, .int .i64 l2, .int .i64 l3, .int .i64 l4, .int .i64 l5, .int .i64 l6] 23)) := (Below.refl _ _).alloc (Nat.le_refl _) _
            go_wp2_with fail
            refine (cRecord_any l0 l1 l2 l3 l4 l5 l6 _ 0 2 (Or.inr ⟨rfl, rfl, HB1.out⟩)).mono ?_
            rintro y w1 ⟨rfl, b1⟩
            replace m0 := cell_kept m0 b1
            replace m1 := cell_kept m1 b1
            replace m2 := cell_kept m2 b1
            replace m3 := cell_kept m3 b1
            replace m4 := cell_kept m4 b1
            replace m5 := cell_kept m5 b1
            replace m6 := cell_kept m6 b1
            have c2 := c1.trans (b1.mono c1.size); clear c1 b1
            have c1 := c2; clear c2
            go_wp2_with fail
            refine (cRoom_any l0 l1 l2 l3 l4 l5 l6 _ 0 2 (Or.inr ⟨rfl, rfl, HB1.out⟩)).mono ?_
            rintro y w1 ⟨rfl, b1⟩
            replace m0 := cell_kept m0 b1
            replace m1 := cell_kept m1 b1
            replace m2 := cell_kept m2 b1
            replace m3 := cell_kept m3 b1
            replace m4 := cell_kept m4 b1
            replace m5 := cell_kept m5 b1
            replace m6 := cell_kept m6 b1
            have c2 := c1.trans (b1.mono c1.size); clear c1 b1
            have c1 := c2; clear c2
            go_wp2_with fail
            refine (cLimit_any l0 l1 l2 l3 l4 l5 l6 _ 0 2 (Or.inr ⟨rfl, rfl, HB1.out⟩)).mono ?_
            rintro y w1 ⟨rfl, b1⟩
            replace m0 := cell_kept m0 b1
            replace m1 := cell_kept m1 b1
            replace m2 := cell_kept m2 b1
            replace m3 := cell_kept m3 b1
            replace m4 := cell_kept m4 b1
            replace m5 := cell_kept m5 b1
            replace m6 := cell_kept m6 b1
            have c2 := c1.trans (b1.mono c1.size); clear c1 b1
            have c1 := c2; clear c2
            go_wp2_with fail
            refine (cSlices_any l0 l1 l2 l3 l4 l5 l6 _ 0 2 (Or.inr ⟨rfl, rfl, HB1.out⟩)).mono ?_
            rintro y w1 ⟨rfl, b1⟩
            replace m0 := cell_kept m0 b1
            replace m1 := cell_kept m1 b1
            replace m2 := cell_kept m2 b1
            replace m3 := cell_kept m3 b1
            replace m4 := cell_kept m4 b1
            replace m5 := cell_kept m5 b1
            replace m6 := cell_kept m6 b1
            have c2 := c1.trans (b1.mono c1.size); clear c1 b1
            have c1 := c2; clear c2
            go_wp2_with fail
            refine (cText_any l0 l1 l2 l3 l4 l5 l6 _ (HT.out.below (hF.out.2.2.trans (c1.mono hF.out.2.2.size))) ⟨#[]⟩ 2 (Or.inr ⟨rfl, rfl, HB1.out⟩)).mono ?_
            rintro y w1 ⟨rfl, b1⟩
            replace m0 := cell_kept m0 b1
            replace m1 := cell_kept m1 b1
            replace m2 := cell_kept m2 b1
            replace m3 := cell_kept m3 b1
            replace m4 := cell_kept m4 b1
            replace m5 := cell_kept m5 b1
            replace m6 := cell_kept m6 b1
            have c2 := c1.trans (b1.mono c1.size); clear c1 b1
            have c1 := c2; clear c2
            go_wp2_with fail
            refine (check_any l0 l1 l2 l3 l4 l5 l6 _).mono ?_
            rw [HB1.out]
            rintro y w1 ⟨rfl, b1⟩
            have c2 := c1.trans (b1.mono c1.size); clear c1 b1
            have hF2 := Lib.hid (hF.out.below c2)
            clear c2 m0 m1 m2 m3 m4 m5 m6 q0 q1 q2 q3 q4 q5 q6 hF
            go_wp2_with fail
            go_roundw
            case rel => exact ⟨0 + 1, by decide, rfl, hF2⟩
            case measure => simp [intOf]
          · have q0 : wr.cell? ⟨A, 7, none⟩ = some (.int .i64 h0) := hF.out.2.1 7 (by decide)
            have q1 : wr.cell? ⟨A, 8, none⟩ = some (.int .i64 h1) := hF.out.2.1 8 (by decide)
            have q2 : wr.cell? ⟨A, 9, none⟩ = some (.int .i64 h2) := hF.out.2.1 9 (by decide)
            have q3 : wr.cell? ⟨A, 10, none⟩ = some (.int .i64 h3) := hF.out.2.1 10 (by decide)
            have q4 : wr.cell? ⟨A, 11, none⟩ = some (.int .i64 h4) := hF.out.2.1 11 (by decide)
            have q5 : wr.cell? ⟨A, 12, none⟩ = some (.int .i64 h5) := hF.out.2.1 12 (by decide)
            have q6 : wr.cell? ⟨A, 13, none⟩ = some (.int .i64 h6) := hF.out.2.1 13 (by decide)
            obtain ⟨m0, m1, m2, m3, m4, m5, m6⟩ := cfgAt_new wr h0 h1 h2 h3 h4 h5 h6 23
            have c1 : Below wr.heap.size wr (wr.alloc (.cells #[.int .i64 h0, .int .i64 h1, .int .i64 h2, .int .i64 h3, .int .i64 h4, .int .i64 h5, .int .i64 h6] 23)) := (Below.refl _ _).alloc (Nat.le_refl _) _
            go_wp2_with fail
            refine (cRecord_any h0 h1 h2 h3 h4 h5 h6 _ 0 2 (Or.inr ⟨rfl, rfl, HB2.out⟩)).mono ?_
            rintro y w1 ⟨rfl, b1⟩
            replace m0 := cell_kept m0 b1
            replace m1 := cell_kept m1 b1
            replace m2 := cell_kept m2 b1
            replace m3 := cell_kept m3 b1
            replace m4 := cell_kept m4 b1
            replace m5 := cell_kept m5 b1
            replace m6 := cell_kept m6 b1
            have c2 := c1.trans (b1.mono c1.size); clear c1 b1
            have c1 := c2; clear c2
            go_wp2_with fail
            refine (cRoom_any h0 h1 h2 h3 h4 h5 h6 _ 0 2 (Or.inr ⟨rfl, rfl, HB2.out⟩)).mono ?_
            rintro y w1 ⟨rfl, b1⟩
            replace m0 := cell_kept m0 b1
            replace m1 := cell_kept m1 b1
            replace m2 := cell_kept m2 b1
            replace m3 := cell_kept m3 b1
            replace m4 := cell_kept m4 b1
            replace m5 := cell_kept m5 b1
            replace m6 := cell_kept m6 b1
            have c2 := c1.trans (b1.mono c1.size); clear c1 b1
            have c1 := c2; clear c2
            go_wp2_with fail
            refine (cLimit_any h0 h1 h2 h3 h4 h5 h6 _ 0 2 (Or.inr ⟨rfl, rfl, HB2.out⟩)).mono ?_
            rintro y w1 ⟨rfl, b1⟩
            replace m0 := cell_kept m0 b1
            replace m1 := cell_kept m1 b1
            replace m2 := cell_kept m2 b1
            replace m3 := cell_kept m3 b1
            replace m4 := cell_kept m4 b1
            replace m5 := cell_kept m5 b1
            replace m6 := cell_kept m6 b1
            have c2 := c1.trans (b1.mono c1.size); clear c1 b1
            have c1 := c2; clear c2
            go_wp2_with fail
            refine (cSlices_any h0 h1 h2 h3 h4 h5 h6 _ 0 2 (Or.inr ⟨rfl, rfl, HB2.out⟩)).mono ?_
            rintro y w1 ⟨rfl, b1⟩
            replace m0 := cell_kept m0 b1
            replace m1 := cell_kept m1 b1
            replace m2 := cell_kept m2 b1
            replace m3 := cell_kept m3 b1
            replace m4 := cell_kept m4 b1
            replace m5 := cell_kept m5 b1
            replace m6 := cell_kept m6 b1
            have c2 := c1.trans (b1.mono c1.size); clear c1 b1
            have c1 := c2; clear c2
            go_wp2_with fail
            refine (cText_any h0 h1 h2 h3 h4 h5 h6 _ (HT.out.below (hF.out.2.2.trans (c1.mono hF.out.2.2.size))) ⟨#[]⟩ 2 (Or.inr ⟨rfl, rfl, HB2.out⟩)).mono ?_
            rintro y w1 ⟨rfl, b1⟩
            replace m0 := cell_kept m0 b1
            replace m1 := cell_kept m1 b1
            replace m2 := cell_kept m2 b1
            replace m3 := cell_kept m3 b1
            replace m4 := cell_kept m4 b1
            replace m5 := cell_kept m5 b1
            replace m6 := cell_kept m6 b1
            have c2 := c1.trans (b1.mono c1.size); clear c1 b1
            have c1 := c2; clear c2
            go_wp2_with fail
            refine (check_any h0 h1 h2 h3 h4 h5 h6 _).mono ?_
            rw [HB2.out]
            rintro y w1 ⟨rfl, b1⟩
            have c2 := c1.trans (b1.mono c1.size); clear c1 b1
            have hF2 := Lib.hid (hF.out.below c2)
            clear c2 m0 m1 m2 m3 m4 m5 m6 q0 q1 q2 q3 q4 q5 q6 hF
            go_wp2_with fail
            go_roundw
            case rel => exact ⟨1 + 1, by decide, rfl, hF2⟩
            case measure => simp [intOf]
          · obtain ⟨k0, k1, k2, k3, k4, k5, k6⟩ := hF.out.1
            have hCl := World.block_lt_of_cell? wr _ k0
            have c1 := hF.out.2.2
            have hws := c1.size
            have HD := Lib.hid (DQ.new hF.out.1 hF.out.2.2 23 23)
            clear hF HB1 HB2 hi
            go_wp2_with fail
            go_cut [24, 25] from 179 to 180 (fun a b wx => ∃ B3 B4, a = .pointer (some ⟨B3, 0, none⟩) ∧ b = .pointer (some ⟨B4, 0, none⟩) ∧ Hid (DQ w C B3 B4 [S, Z, R, W, K, V, P] [S, Z, R, W, K, V, P] [S, Z, R, W, K, V, P] wx) ∧ B3 ≠ B4 ∧ C ≠ B3 ∧ C ≠ B4 ∧ w.heap.size ≤ B3 ∧ w.heap.size ≤ B4)
            case first =>
              go_region
              all_goals (go_wp2_with fail; go_meet; first | exact ⟨_, _, rfl, rfl, HD, by omega, by omega, by omega, by omega, by omega⟩ | exact ⟨_, _, rfl, rfl, Lib.hid HD.out.swap, by omega, by omega, by omega, by omega, by omega⟩)
            case rest =>
              obtain ⟨B3, B4, rfl, rfl, hE3, e1, e2, e3, e4, e5⟩ := hcut
              clear HD k0 k1 k2 k3 k4 k5 k6 c1 hCl hws
              have a0 : wc.cell? ⟨B3, 0, none⟩ = some (.int .i64 S) := hE3.out.2.1 0 (by decide)
              have a1 : wc.cell? ⟨B3, 1, none⟩ = some (.int .i64 Z) := hE3.out.2.1 1 (by decide)
              have a3 : wc.cell? ⟨B3, 3, none⟩ = some (.int .i64 W) := hE3.out.2.1 3 (by decide)
              have cr : wc.cell? ⟨C, 2, none⟩ = some (.int .i64 R) := hE3.out.1 2 (by decide)
              have f0 := hE3.out.2.2.2.1 0
              have f1 := hE3.out.2.2.2.1 1
              have f3 := hE3.out.2.2.2.1 3
              go_wp2_with fail
              go_cut [] from 181 to 191 (fun wx => Hid (DQ w C B3 B4 [S, Z, R, W, K, V, P] [R + 2, 16 + (16 + K + V), R, 2 * (16 + K + V) + 32, K, V, P] [S, Z, R, W, K, V, P] wx))
              case first =>
                go_region
                all_goals (go_wp2_with fail; go_meet; exact Lib.hid (DQ.drew (((hE3.out.set1 e4 e2 e1 rfl 1 (by decide) (16 + (16 + K + V))).set1 e4 e2 e1 rfl 3 (by decide) (2 * (16 + K + V) + 32)).set1 e4 e2 e1 rfl 0 (by decide) (R + 2))))
              case rest =>
                have hD3 := hcut
                clear hE3 a0 a1 a3 cr f0 f1 f3
                have z1 : wc.cell? ⟨B4, 1, none⟩ = some (.int .i64 Z) := hD3.out.2.2.1 1 (by decide)
                have y1x := hD3.out.2.2.2.2.1 1
                have hD4 := Lib.hid (hD3.out.set2 e5 e3 e1 rfl 1 (by decide) 8192)
                have z3 : (wc.setCell ⟨B4, 1, none⟩ (.int .i64 8192)).cell? ⟨B4, 3, none⟩ = some (.int .i64 W) := hD4.out.2.2.1 3 (by decide)
                have y3x := hD4.out.2.2.2.2.1 3
                have hD5 := Lib.hid (hD4.out.set2 e5 e3 e1 rfl 3 (by decide) 65536)
                have z0 : ((wc.setCell ⟨B4, 1, none⟩ (.int .i64 8192)).setCell ⟨B4, 3, none⟩ (.int .i64 65536)).cell? ⟨B4, 0, none⟩ = some (.int .i64 S) := hD5.out.2.2.1 0 (by decide)
                have y0x := hD5.out.2.2.2.2.1 0
                have hD6 : Hid (DQ w C B3 B4 [S, Z, R, W, K, V, P] [R + 2, 16 + (16 + K + V), R, 2 * (16 + K + V) + 32, K, V, P] [32, 8192, R, 65536, K, V, P] (((wc.setCell ⟨B4, 1, none⟩ (.int .i64 8192)).setCell ⟨B4, 3, none⟩ (.int .i64 65536)).setCell ⟨B4, 0, none⟩ (.int .i64 32))) := Lib.hid (hD5.out.set2 e5 e3 e1 rfl 0 (by decide) 32)
                obtain ⟨p0, p1, p2, p3, p4, p5, p6⟩ := hD6.out.cfg1
                obtain ⟨q0, q1, q2, q3, q4, q5, q6⟩ := hD6.out.swap.cfg1
                have c1 := hD6.out.2.2.2.2.2
                go_wp2_with fail
                refine (check_any (R + 2) (16 + (16 + K + V)) R (2 * (16 + K + V) + 32) K V P _).mono ?_
                rw [HG1.out]
                rintro y w3 ⟨rfl, b1⟩
                clear p0 p1 p2 p3 p4 p5 p6 z1 z3 z0 y1x y3x y0x hD3 hD4 hD5 hD6
                replace q0 := cell_kept q0 b1
                replace q1 := cell_kept q1 b1
                replace q2 := cell_kept q2 b1
                replace q3 := cell_kept q3 b1
                replace q4 := cell_kept q4 b1
                replace q5 := cell_kept q5 b1
                replace q6 := cell_kept q6 b1
                have c2 := c1.trans (b1.mono c1.size); clear c1 b1
                have c1 := c2; clear c2
                go_wp2_with fail
                refine (check_any 32 8192 R 65536 K V P _).mono ?_
                rw [HG2.out]
                rintro y w3 ⟨rfl, b1⟩
                have c2 := c1.trans (b1.mono c1.size); clear c1 b1
                have c1 := c2; clear c2
                go_wp2_with fail
                refine (works_any m _ (HT.out.below c1) (cell_kept HM.out c1)).mono ?_
                rintro y w3 ⟨rfl, b1⟩
                have c2 := c1.trans (b1.mono c1.size); clear c1 b1
                have c1 := c2; clear c2
                go_wp2_with fail
                go_ret
                exact ⟨rfl, c1⟩
  · rw [hE] at h'; cases h'
end Go.Proofs.YtllgnogiicdhfaaDoor
