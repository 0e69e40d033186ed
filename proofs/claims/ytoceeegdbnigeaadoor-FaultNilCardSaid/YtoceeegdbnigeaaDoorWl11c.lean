/-
  FaultNil: the walk.
  Conditions: the library's tables and variables lie in the world.
-/
import Derived.Test.YtoceeegdbnigeaaDoorWl11a
import Derived.Test.YtoceeegdbnigeaaDoorShort11
set_option linter.unusedVariables false
namespace Go.Proofs.YtoceeegdbnigeaaDoor
open Go Go.RowKit

theorem cell_other {w : World} {B C i j : Nat} {v x : Value} (h : w.cell? ⟨B, i, none⟩ = some v) (hn : B ≠ C) : (w.setCell ⟨C, j, none⟩ x).cell? ⟨B, i, none⟩ = some v :=
  (World.cell?_of_block (Below.heap_setCell _ _ _ _ hn)).trans h
set_option maxRecDepth 100000 in
set_option maxHeartbeats 8000000 in
theorem walkFaultNil (A : Int) (d : Bool) (v : Value) (L : List Int) (m : Int) (w : World) (hv : IntsAt w v L) (ht : Tab w) (he : Errs w) (hm : w.cell? ⟨0, 0, none⟩ = some (.int .i64 m)) :
    Calls Tryd.prog 10 #[planV A d v] w fun e w' => e = .returned (.bool true) ∧ Below w.heap.size w w' := by
  have HT := Lib.hid ht
  have HE := Lib.hid he
  have HM := Lib.hid hm
  have HV := Lib.hid hv
  obtain ⟨p, c, rfl, _, _⟩ := hv
  have c1 : Below w.heap.size w (w.alloc (.cells #[.int .i64 A, .bool d, .slice p L.length c] 24)) := (Below.refl _ _).alloc (Nat.le_refl _) _
  obtain ⟨k0, k1, k2⟩ := planAt_new w A d (.slice p L.length c) 24
  clear ht he hm
  obtain ⟨b, hb⟩ : ∃ b, decide (L.length ≤ 100) = b := ⟨_, rfl⟩
  have HB := Lib.hid hb
  clear hb
  cases b
  · go_enter Tryd.func10, Tryd.ntmps10
    go_wp2_with fail
    refine (short_any A d _ L false HB.out _ (HV.out.below c1)).mono ?_
    rintro y w1 ⟨rfl, b1⟩
    have c2 := c1.trans (b1.mono c1.size); clear c1 b1
    go_wp2_with fail
    refine (works_any m _ (HT.out.below c2) (HE.out.below c2) (cell_kept HM.out c2)).mono ?_
    rintro y w2 ⟨rfl, b1⟩
    have c3 := c2.trans (b1.mono c2.size); clear c2 b1
    go_wp2_with fail
    go_ret
    exact ⟨rfl, c3⟩
  · go_enter Tryd.func10, Tryd.ntmps10
    go_wp2_with fail
    refine (short_any A d _ L true HB.out _ (HV.out.below c1)).mono ?_
    rintro y w1 ⟨rfl, b1⟩
    replace k0 := cell_kept k0 b1
    replace k1 := cell_kept k1 b1
    replace k2 := cell_kept k2 b1
    have c2 := c1.trans (b1.mono c1.size); clear c1 b1
    have hPw := World.block_lt_of_cell? _ _ k0
    have b2 : Below w1.heap.size w1 (w1.alloc (.cells #[.bool false, .pointer none] 63)) := (Below.refl _ _).alloc (Nat.le_refl _) _
    have HX := Lib.hid (TimAt.new w1 false none 63)
    have hs2 : (w1.alloc (.cells #[.bool false, .pointer none] 63)).heap.size = w1.heap.size + 1 := by simp
    have b3 : Below (w1.alloc (.cells #[.bool false, .pointer none] 63)).heap.size (w1.alloc (.cells #[.bool false, .pointer none] 63)) ((w1.alloc (.cells #[.bool false, .pointer none] 63)).alloc (.cells #[.pointer none, .pointer (some ⟨w1.heap.size, 0, none⟩)] 44)) := (Below.refl _ _).alloc (Nat.le_refl _) _
    have HX2 := Lib.hid (HX.out.below b3); clear HX
    have HX := HX2; clear HX2
    replace k0 := cell_kept (cell_kept k0 b2) b3
    replace k1 := cell_kept (cell_kept k1 b2) b3
    replace k2 := cell_kept (cell_kept k2 b2) b3
    have l0 := new_cell (w := w1.alloc (.cells #[.bool false, .pointer none] 63)) #[.pointer none, .pointer (some ⟨w1.heap.size, 0, none⟩)] 44 0 (.pointer none) rfl
    have l1 := new_cell (w := w1.alloc (.cells #[.bool false, .pointer none] 63)) #[.pointer none, .pointer (some ⟨w1.heap.size, 0, none⟩)] 44 1 (.pointer (some ⟨w1.heap.size, 0, none⟩)) rfl
    rw [hs2] at l0 l1
    have c1 := (c2.trans (b2.mono c2.size)).trans (b3.mono (Nat.le_trans c2.size b2.size))
    have hTw : w.heap.size ≤ w1.heap.size := c2.size
    clear c2 b2 b3 hs2
    go_wp2_with fail
    generalize ((w1.alloc (.cells #[.bool false, .pointer none] 63)).alloc (.cells #[.pointer none, .pointer (some ⟨w1.heap.size, 0, none⟩)] 44)) = w0 at *
    go_loopw [17] (fun vi wr => ∃ i : Nat, i ≤ 2 ∧ vi = .int .i64 i ∧ Hid (TimAt wr w1.heap.size false none) ∧ wr.cell? ⟨w.heap.size, 0, none⟩ = some (.int .i64 A) ∧ wr.cell? ⟨w.heap.size, 1, none⟩ = some (.bool d) ∧ wr.cell? ⟨w.heap.size, 2, none⟩ = some (.slice p L.length c) ∧ wr.cell? ⟨w1.heap.size + 1, 0, none⟩ = some (.pointer none) ∧ wr.cell? ⟨w1.heap.size + 1, 1, none⟩ = some (.pointer (some ⟨w1.heap.size, 0, none⟩)) ∧ Below w.heap.size w wr) (fun vi _ => 2 - (intOf vi).toNat)
    case atStart => exact ⟨0, Nat.zero_le _, rfl, HX, k0, k1, k2, l0, l1, c1⟩
    case round =>
      clear HX k0 k1 k2 l0 l1 c1
      obtain ⟨i, hi, rfl, HX, k0, k1, k2, l0, l1, c1⟩ := hrel
      rcases (show i = 0 ∨ i = 1 ∨ i = 2 by omega) with rfl | rfl | rfl
      · go_wp2_with fail
        refine (disarm_nil _).mono ?_
        rintro y w2 ⟨rfl, rfl⟩
        go_wp2_with fail
        refine (plan_nil _).mono ?_
        rintro y w2 ⟨rfl, b9⟩
        replace k0 := cell_kept k0 b9
        replace k1 := cell_kept k1 b9
        replace k2 := cell_kept k2 b9
        replace l0 := cell_kept l0 b9
        replace l1 := cell_kept l1 b9
        have hX2 := HX.out.below b9; clear HX
        have HX := Lib.hid hX2; clear hX2
        have c2 := c1.trans (b9.mono c1.size); clear c1 b9
        have c1 := c2; clear c2
        have HQ := Lib.hid (PlanAt.new w2 0 false (.slice none 0 0) 24)
        have b9 := (Below.refl w2.heap.size w2).alloc (Nat.le_refl _) (.cells #[.int .i64 0, .bool false, .slice none 0 0] 24)
        replace k0 := cell_kept k0 b9
        replace k1 := cell_kept k1 b9
        replace k2 := cell_kept k2 b9
        replace l0 := cell_kept l0 b9
        replace l1 := cell_kept l1 b9
        have hX2 := HX.out.below b9; clear HX
        have HX := Lib.hid hX2; clear hX2
        have c2 := c1.trans (b9.mono c1.size); clear c1 b9
        have c1 := c2; clear c2
        go_wp2_with fail
        refine (arm_nil A d _ _).mono ?_
        rintro y w3 ⟨rfl, b9⟩
        obtain ⟨⟨q0, q1, q2⟩, qf⟩ := HQ.out.below b9
        clear HQ qf
        replace k0 := cell_kept k0 b9
        replace k1 := cell_kept k1 b9
        replace k2 := cell_kept k2 b9
        replace l0 := cell_kept l0 b9
        replace l1 := cell_kept l1 b9
        have hX2 := HX.out.below b9; clear HX
        have HX := Lib.hid hX2; clear hX2
        have c2 := c1.trans (b9.mono c1.size); clear c1 b9
        have c1 := c2; clear c2
        go_wp2_with fail
        refine (tick_nil _).mono ?_
        rintro y w4 ⟨rfl, rfl⟩
        go_wp2_with fail
        refine (same_any 0 false _ [] 0 false _ [] _ (IntsAt.nil _ _ _) (IntsAt.nil _ _ _) (by decide) (by decide)).mono ?_
        rw [sameB_self]
        rintro y w4 ⟨rfl, b9⟩
        clear q0 q1 q2
        replace k0 := cell_kept k0 b9
        replace k1 := cell_kept k1 b9
        replace k2 := cell_kept k2 b9
        replace l0 := cell_kept l0 b9
        replace l1 := cell_kept l1 b9
        have hX2 := HX.out.below b9; clear HX
        have HX := Lib.hid hX2; clear hX2
        have c2 := c1.trans (b9.mono c1.size); clear c1 b9
        have c1 := c2; clear c2
        go_wp2_with fail
        refine (copy_nil _).mono ?_
        rintro y w5 ⟨rfl, rfl⟩
        go_wp2_with fail
        go_roundw
        case rel => exact ⟨1, by decide, rfl, HX, k0, k1, k2, l0, l1, c1⟩
        case measure => decide
      · go_wp2_with fail
        refine (disarm_any w1.heap.size false none _ HX.out).mono ?_
        rintro y w2 ⟨rfl, rfl⟩
        have HX2 := Lib.hid (HX.out.set none); clear HX
        have HX := HX2; clear HX2
        replace k0 := cell_other (C := w1.heap.size) (j := 1) (x := .pointer none) k0 (by omega)
        replace k1 := cell_other (C := w1.heap.size) (j := 1) (x := .pointer none) k1 (by omega)
        replace k2 := cell_other (C := w1.heap.size) (j := 1) (x := .pointer none) k2 (by omega)
        replace l0 := cell_other (C := w1.heap.size) (j := 1) (x := .pointer none) l0 (by omega)
        replace l1 := cell_other (C := w1.heap.size) (j := 1) (x := .pointer none) l1 (by omega)
        replace c1 := below_set c1 w1.heap.size hTw 1 (.pointer none)
        generalize (wr.setCell ⟨w1.heap.size, 1, none⟩ (.pointer none)) = ws at *
        go_wp2_with fail
        refine (plan_no w1.heap.size false _ HX.out).mono ?_
        rintro y w2 ⟨rfl, b9⟩
        replace k0 := cell_kept k0 b9
        replace k1 := cell_kept k1 b9
        replace k2 := cell_kept k2 b9
        replace l0 := cell_kept l0 b9
        replace l1 := cell_kept l1 b9
        have hX2 := HX.out.below b9; clear HX
        have HX := Lib.hid hX2; clear hX2
        have c2 := c1.trans (b9.mono c1.size); clear c1 b9
        have c1 := c2; clear c2
        have HQ := Lib.hid (PlanAt.new w2 0 false (.slice none 0 0) 24)
        have b9 := (Below.refl w2.heap.size w2).alloc (Nat.le_refl _) (.cells #[.int .i64 0, .bool false, .slice none 0 0] 24)
        replace k0 := cell_kept k0 b9
        replace k1 := cell_kept k1 b9
        replace k2 := cell_kept k2 b9
        replace l0 := cell_kept l0 b9
        replace l1 := cell_kept l1 b9
        have hX2 := HX.out.below b9; clear HX
        have HX := Lib.hid hX2; clear hX2
        have c2 := c1.trans (b9.mono c1.size); clear c1 b9
        have c1 := c2; clear c2
        go_wp2_with fail
        refine (arm_unmade w1.heap.size none A d _ _ HX.out).mono ?_
        rintro y w3 ⟨rfl, b9⟩
        obtain ⟨⟨q0, q1, q2⟩, qf⟩ := HQ.out.below b9
        clear HQ qf
        replace k0 := cell_kept k0 b9
        replace k1 := cell_kept k1 b9
        replace k2 := cell_kept k2 b9
        replace l0 := cell_kept l0 b9
        replace l1 := cell_kept l1 b9
        have hX2 := HX.out.below b9; clear HX
        have HX := Lib.hid hX2; clear hX2
        have c2 := c1.trans (b9.mono c1.size); clear c1 b9
        have c1 := c2; clear c2
        go_wp2_with fail
        refine (tick_no w1.heap.size false _ HX.out).mono ?_
        rintro y w4 ⟨rfl, rfl⟩
        go_wp2_with fail
        refine (same_any 0 false _ [] 0 false _ [] _ (IntsAt.nil _ _ _) (IntsAt.nil _ _ _) (by decide) (by decide)).mono ?_
        rw [sameB_self]
        rintro y w4 ⟨rfl, b9⟩
        clear q0 q1 q2
        replace k0 := cell_kept k0 b9
        replace k1 := cell_kept k1 b9
        replace k2 := cell_kept k2 b9
        replace l0 := cell_kept l0 b9
        replace l1 := cell_kept l1 b9
        have hX2 := HX.out.below b9; clear HX
        have HX := Lib.hid hX2; clear hX2
        have c2 := c1.trans (b9.mono c1.size); clear c1 b9
        have c1 := c2; clear c2
        go_wp2_with fail
        refine (copy_unmade w1.heap.size none _ HX.out).mono ?_
        rintro y w5 ⟨rfl, rfl⟩
        go_wp2_with fail
        go_roundw
        case rel => exact ⟨2, by decide, rfl, HX, k0, k1, k2, l0, l1, c1⟩
        case measure => decide
      · clear HX k0 k1 k2 l0 l1
        go_wp2_with fail
        refine (works_any m _ (HT.out.below c1) (HE.out.below c1) (cell_kept HM.out c1)).mono ?_
        rintro y w2 ⟨rfl, b1⟩
        have c3 := c1.trans (b1.mono c1.size); clear c1 b1
        go_wp2_with fail
        go_ret
        exact ⟨rfl, c3⟩
end Go.Proofs.YtoceeegdbnigeaaDoor
