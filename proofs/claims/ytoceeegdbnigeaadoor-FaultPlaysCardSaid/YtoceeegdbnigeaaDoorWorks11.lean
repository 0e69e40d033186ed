/-
  The examples of layer 11 hold.
  Conditions: the library's tables and variables lie in the world.
-/
import Derived.Test.YtoceeegdbnigeaaDoorRfq11
set_option linter.unusedVariables false
namespace Go.Proofs.YtoceeegdbnigeaaDoor
open Go Go.RowKit

abbrev ex1S : ByteArray := ⟨#[51, 32, 121, 32, 48, 44, 53, 44, 49, 48, 48]⟩
abbrev ex2S : ByteArray := ⟨#[48, 32, 110, 32, 56, 49, 57, 50]⟩
abbrev ex3S : ByteArray := ⟨#[51, 32, 121, 32, 48, 44]⟩
theorem ex1_text : ex1S.data.toList = textB 3 true [0, 5, 100] := by
  rw [textB_eq]
  simp [keepT, dS, Lib.decDigits, joinc_two, Lib.join_one]
theorem ex1_ok : planOK 3 [0, 5, 100] = true := by decide
theorem ex2_text : ex2S.data.toList = textB 0 false [8192] := by
  rw [textB_eq]
  simp [keepT, dS, Lib.decDigits, Lib.join_one]
theorem ex2_ok : planOK 0 [8192] = true := by decide
theorem ex3_bad : ¬ goodP ex3S := by
  intro h
  have hk := h.2.2.1 1 (by decide +kernel)
  have h2 := hk.1
  have h3 : (digV ((kepS ex3S).getD 1 ⟨#[]⟩).data.toList).2 = 8 := by decide +kernel
  rw [h3] at h2
  cases h2
theorem below_kept {B C : Nat} {w w1 w2 : World} (h : Below B w w1) (hk : KeptBut C w1 w2) (hc : B ≤ C) (hs : B ≤ w1.heap.size) : Below B w w2 :=
  h.grown hk hs fun k e => by cases e; exact hc
theorem PlanAt.kept {w w' : World} {B C : Nat} {A : Int} {d : Bool} {v : Value} (h : PlanAt w B A d v) (hk : KeptBut C w w') (hn : B ≠ C) : PlanAt w' B A d v :=
  h.grown hk (fun e => hn (by cases e; rfl))
theorem TimAt.kept {w w' : World} {B C : Nat} {m : Bool} {p : Option Addr} (h : TimAt w B m p) (hk : KeptBut C w w') (hn : B ≠ C) : TimAt w' B m p :=
  h.block (hk.block B h.lt (fun e => hn (by cases e; rfl)))
theorem IntsAt.one (w : World) (x : Int) (t : TypeId) : IntsAt (w.alloc (.cells #[.int .i64 x] t)) (.slice (some ⟨w.heap.size, 0, none⟩) 1 1) [x] :=
  ⟨_, 1, rfl, Nat.le_refl _, fun _ => ⟨w.heap.size, 0, rfl, fun i hi => by
    obtain rfl : i = 0 := by simpa using hi
    exact new_cell _ _ 0 _ rfl⟩⟩
theorem IntsAt.three (w : World) (x y z : Int) (t : TypeId) : IntsAt (w.alloc (.cells #[.int .i64 x, .int .i64 y, .int .i64 z] t)) (.slice (some ⟨w.heap.size, 0, none⟩) 3 3) [x, y, z] :=
  ⟨_, 3, rfl, Nat.le_refl _, fun _ => ⟨w.heap.size, 0, rfl, fun i hi => by
    rw [Nat.zero_add]
    match i, hi with
    | 0, _ => exact new_cell _ _ 0 _ rfl
    | 1, _ => exact new_cell _ _ 1 _ rfl
    | 2, _ => exact new_cell _ _ 2 _ rfl⟩⟩
theorem parse_ex2 (m : Int) (w : World) (ht : Tab w) (he : Errs w) (hm : w.cell? ⟨0, 0, none⟩ = some (.int .i64 m)) :
    Calls Tryd.prog 22 #[.string ex2S] w fun e w' => (∃ p c, e = .returned (.tuple #[planV 0 false (.slice p 1 c), .int .i64 0]) ∧ IntsNew w.heap.size w' (.slice p 1 c) [8192]) ∧ Below w.heap.size w w' := by
  obtain ⟨h1, h2, h3, h4⟩ := good_text ex2_ok ex2_text
  obtain ⟨g1, g2, g3, g4⟩ := p_good h1
  refine (parse_any ex2S (by decide) m w ht he hm).mono ?_
  rintro e w' ⟨⟨v, rfl, hn⟩, hb⟩
  rw [g1, g2, g4, h2, h3]
  rw [g3, h4] at hn
  obtain ⟨p, c, rfl⟩ := ownsRow_slice hn
  exact ⟨⟨p, c, rfl, hn⟩, hb⟩
theorem parse_ex3 (m : Int) (w : World) (ht : Tab w) (he : Errs w) (hm : w.cell? ⟨0, 0, none⟩ = some (.int .i64 m)) :
    Calls Tryd.prog 22 #[.string ex3S] w fun e w' => (∃ p c, e = .returned (.tuple #[planV 0 false (.slice p 0 c), .int .i64 8])) ∧ Below w.heap.size w w' := by
  obtain ⟨g1, g2, g3, g4⟩ := p_bad ex3_bad
  refine (parse_any ex3S (by decide) m w ht he hm).mono ?_
  rintro e w' ⟨⟨v, rfl, hn⟩, hb⟩
  rw [g1, g2, g4]
  rw [g3] at hn
  obtain ⟨p, c, rfl⟩ := ownsRow_slice hn
  exact ⟨⟨p, c, rfl⟩, hb⟩
set_option maxRecDepth 100000 in
set_option maxHeartbeats 8000000 in
theorem works_any (m : Int) (w : World) (ht : Tab w) (he : Errs w) (hm : w.cell? ⟨0, 0, none⟩ = some (.int .i64 m)) :
    Calls Tryd.prog 13 #[] w fun e w' => e = .returned (.bool true) ∧ Below w.heap.size w w' := by
  have HT := Lib.hid ht
  have HE := Lib.hid he
  have HM := Lib.hid hm
  have a1 : Below w.heap.size w (w.alloc (.cells #[.int .i64 0, .int .i64 5, .int .i64 100] 3)) := (Below.refl _ _).alloc (Nat.le_refl _) _
  have c1 : Below w.heap.size w ((w.alloc (.cells #[.int .i64 0, .int .i64 5, .int .i64 100] 3)).alloc (.cells #[.int .i64 3, .bool true, .slice (some ⟨w.heap.size, 0, none⟩) 3 3] 24)) := a1.alloc a1.size _
  have a2 := (Below.refl (w.alloc (.cells #[.int .i64 0, .int .i64 5, .int .i64 100] 3)).heap.size (w.alloc (.cells #[.int .i64 0, .int .i64 5, .int .i64 100] 3))).alloc (Nat.le_refl _) (.cells #[.int .i64 3, .bool true, .slice (some ⟨w.heap.size, 0, none⟩) 3 3] 24)
  have HV := Lib.hid ((IntsAt.three w 0 5 100 3).below a2)
  have hs1 : (w.alloc (.cells #[.int .i64 0, .int .i64 5, .int .i64 100] 3)).heap.size = w.heap.size + 1 := by simp
  have hp := planAt_new (w.alloc (.cells #[.int .i64 0, .int .i64 5, .int .i64 100] 3)) 3 true (.slice (some ⟨w.heap.size, 0, none⟩) 3 3) 24
  rw [hs1] at hp
  obtain ⟨k0, k1, k2⟩ := hp
  clear a1 a2 hs1 ht he hm
  go_enter Tryd.func13, Tryd.ntmps13
  go_wp2_with fail
  refine (fText_good 3 true _ [0, 5, 100] _ HV.out (HT.out.below c1) ex1S ex1_ok ex1_text).mono ?_
  rintro e w1 ⟨rfl, b1⟩
  replace k0 := cell_kept k0 b1
  replace k1 := cell_kept k1 b1
  replace k2 := cell_kept k2 b1
  have HV2 := Lib.hid (HV.out.below b1); clear HV
  have HV := HV2; clear HV2
  have c2 := c1.trans (b1.mono c1.size); clear c1 b1
  have c1 := c2; clear c2
  go_wp2_with fail
  refine (parse_ex2 m _ (HT.out.below c1) (HE.out.below c1) (cell_kept HM.out c1)).mono ?_
  rintro e w2 ⟨⟨p2, n2, rfl, hn2⟩, b1⟩
  replace k0 := cell_kept k0 b1
  replace k1 := cell_kept k1 b1
  replace k2 := cell_kept k2 b1
  have HV2 := Lib.hid (HV.out.below b1); clear HV
  have HV := HV2; clear HV2
  have c2 := c1.trans (b1.mono c1.size); clear c1 b1
  have c1 := c2; clear c2
  have b1 := (Below.refl w2.heap.size w2).alloc (Nat.le_refl _) (.cells #[.int .i64 0, .bool false, .slice p2 1 n2] 24)
  have HQ := Lib.hid (PlanAt.new w2 0 false (.slice p2 1 n2) 24)
  have HN := Lib.hid (hn2.below b1)
  clear hn2
  replace k0 := cell_kept k0 b1
  replace k1 := cell_kept k1 b1
  replace k2 := cell_kept k2 b1
  have HV2 := Lib.hid (HV.out.below b1); clear HV
  have HV := HV2; clear HV2
  have c2 := c1.trans (b1.mono c1.size); clear c1 b1
  have c1 := c2; clear c2
  go_wp2_with fail
  refine (parse_ex3 m _ (HT.out.below c1) (HE.out.below c1) (cell_kept HM.out c1)).mono ?_
  rintro e w3 ⟨⟨p3, n3, rfl⟩, b1⟩
  have HQ2 := Lib.hid (HQ.out.below b1)
  have HN2 := Lib.hid (HN.out.below b1)
  clear HQ HN
  replace k0 := cell_kept k0 b1
  replace k1 := cell_kept k1 b1
  replace k2 := cell_kept k2 b1
  have HV2 := Lib.hid (HV.out.below b1); clear HV
  have HV := HV2; clear HV2
  have c2 := c1.trans (b1.mono c1.size); clear c1 b1
  have c1 := c2; clear c2
  have b1 := (Below.refl w3.heap.size w3).alloc (Nat.le_refl _) (.cells #[.int .i64 0, .bool false, .slice p3 0 n3] 24)
  have HQ := Lib.hid (HQ2.out.below b1)
  have HN := Lib.hid (HN2.out.below b1)
  clear HQ2 HN2
  replace k0 := cell_kept k0 b1
  replace k1 := cell_kept k1 b1
  replace k2 := cell_kept k2 b1
  have HV2 := Lib.hid (HV.out.below b1); clear HV
  have HV := HV2; clear HV2
  have c2 := c1.trans (b1.mono c1.size); clear c1 b1
  have c1 := c2; clear c2
  go_wp2_with fail
  refine (fkeep_good 3 true _ [0, 5, 100] 1 3 3 0 _ HV.out ex1_ok (Or.inr (Or.inr ⟨by decide, by decide, by decide, rfl⟩))).mono ?_
  rintro e w4 ⟨rfl, b1⟩
  have HQ2 := Lib.hid (HQ.out.below b1)
  have HN2 := Lib.hid (HN.out.below b1)
  clear HQ HN
  replace k0 := cell_kept k0 b1
  replace k1 := cell_kept k1 b1
  replace k2 := cell_kept k2 b1
  have HV2 := Lib.hid (HV.out.below b1); clear HV
  have HV := HV2; clear HV2
  have c2 := c1.trans (b1.mono c1.size); clear c1 b1
  have c1 := c2; clear c2
  go_wp2_with fail
  refine (fkeep_good 3 true _ [0, 5, 100] 5 500 100 0 _ HV.out ex1_ok (Or.inr (Or.inr ⟨by decide, by decide, by decide, rfl⟩))).mono ?_
  rintro e w5 ⟨rfl, b1⟩
  have HQ := Lib.hid (HQ2.out.below b1)
  have HN := Lib.hid (HN2.out.below b1)
  clear HQ2 HN2
  replace k0 := cell_kept k0 b1
  replace k1 := cell_kept k1 b1
  replace k2 := cell_kept k2 b1
  have HV2 := Lib.hid (HV.out.below b1); clear HV
  have HV := HV2; clear HV2
  have c2 := c1.trans (b1.mono c1.size); clear c1 b1
  have c1 := c2; clear c2
  go_wp2_with fail
  refine (fkeep_good 3 true _ [0, 5, 100] (-1) 0 0 3 _ HV.out ex1_ok (Or.inr (Or.inl ⟨by decide, by decide, rfl, rfl⟩))).mono ?_
  rintro e w6 ⟨rfl, b1⟩
  have HQ2 := Lib.hid (HQ.out.below b1)
  have HN2 := Lib.hid (HN.out.below b1)
  clear HQ HN
  replace k0 := cell_kept k0 b1
  replace k1 := cell_kept k1 b1
  replace k2 := cell_kept k2 b1
  have HV2 := Lib.hid (HV.out.below b1); clear HV
  have HV := HV2; clear HV2
  have c2 := c1.trans (b1.mono c1.size); clear c1 b1
  have c1 := c2; clear c2
  have a6 := (Below.refl w6.heap.size w6).alloc (Nat.le_refl _) (.cells #[.int .i64 8192] 3)
  obtain ⟨⟨q0, q1, q2⟩, qf⟩ := HQ2.out
  have HN6 := Lib.hid (HN2.out.below a6)
  have HO6 := Lib.hid (IntsAt.one w6 8192 3)
  have c7 := c1.alloc c1.size (.cells #[.int .i64 8192] 3)
  clear qf a6
  go_wp2_with fail
  refine (same_any 0 false _ [8192] 0 false _ [8192] _ (IntsNew.at HN6.out) HO6.out (by decide) (by decide)).mono ?_
  rw [show sameB 0 false [8192] 0 false [8192] = true by decide]
  rintro e w7 ⟨rfl, b1⟩
  have c8 := c7.trans (b1.mono c7.size)
  clear b1 c7 c1 q0 q1 q2 k0 k1 k2 HV HQ2 HN2 HN6 HO6
  go_wp2_with fail
  refine (new_any _).mono ?_
  rintro e w8 ⟨rfl, rfl⟩
  have HB8 := TimAt.new w7 true none 63
  have c9 := (c8.alloc c8.size (.cells #[.bool true, .pointer none] 63))
  have hBt : w.heap.size ≤ w7.heap.size := c8.size
  have hBl : w7.heap.size < (w7.alloc (.cells #[.bool true, .pointer none] 63)).heap.size := by simp
  generalize w7.heap.size = B at *
  generalize (w7.alloc (.cells #[.bool true, .pointer none] 63)) = w8 at *
  have HT8 := Lib.hid HB8
  clear HB8 c8
  have a9 := (Below.refl w8.heap.size w8).alloc (Nat.le_refl _) (.cells #[.int .i64 0] 3)
  have HT9 := Lib.hid (HT8.out.below a9)
  have HI9 := Lib.hid (IntsAt.one w8 0 3)
  have c10 := c9.alloc c9.size (.cells #[.int .i64 0] 3)
  go_wp2_with fail
  refine (arm_some B none 2 false _ [0] _ HT9.out HI9.out (by decide) (by decide)).mono ?_
  rintro e w10 ⟨rfl, hk, ht, v', hp, hn⟩
  have c11 := below_kept c10 hk hBt c10.size
  have hBC : B < (w8.alloc (.cells #[.int .i64 0] 3)).heap.size := by simp; omega
  generalize (w8.alloc (.cells #[.int .i64 0] 3)).heap.size = C at *
  have hwC : w.heap.size ≤ C := by omega
  have HK := Lib.hid ht
  have HP := Lib.hid hp
  have HN := Lib.hid hn
  clear hk ht hp hn a9 HT9 HI9 c10 HT8 c9
  go_wp2_with fail
  refine (tick_go B C true 2 false v' _ HK.out HP.out (by omega) (by decide) (by decide)).mono ?_
  rintro e w11 ⟨rfl, rfl⟩
  have HK2 := Lib.hid (HK.out.other (C := C) (j := 0) (by omega) (.int .i64 (2 - 1)))
  have HP2 := Lib.hid (HP.out.set0 (2 - 1))
  have HN2 := Lib.hid (HN.out.set ⟨C, 0, none⟩ (.int .i64 (2 - 1)) (by simp))
  have c12 := below_set c11 C hwC 0 (.int .i64 (2 - 1))
  generalize (w10.setCell ⟨C, 0, none⟩ (.int .i64 (2 - 1))) = w11 at *
  clear HK HP HN c11
  go_wp2_with fail
  refine (plan_some B C true 1 false v' [0] _ HK2.out HP2.out (IntsNew.at HN2.out) (by decide)).mono ?_
  rintro e w12 ⟨v2, rfl, hn, b1⟩
  obtain ⟨p4, n4, rfl⟩ := ownsRow_slice hn
  have HK3 := Lib.hid (HK2.out.below b1)
  have HP3 := Lib.hid (HP2.out.below b1)
  have c13 := c12.trans (b1.mono c12.size)
  have hCl := HP3.out.lt
  have a13 := (Below.refl w12.heap.size w12).alloc (Nat.le_refl _) (.cells #[.int .i64 1, .bool false, .slice p4 1 n4] 24)
  have HX := Lib.hid (PlanAt.new w12 1 false (.slice p4 1 n4) 24)
  have HK4 := Lib.hid (HK3.out.below a13)
  have HP4 := Lib.hid (HP3.out.below a13)
  have c14 := c13.alloc c13.size (.cells #[.int .i64 1, .bool false, .slice p4 1 n4] 24)
  clear hn b1 c12 HK2 HP2 HN2 HK3 HP3 c13 a13
  go_wp2_with fail
  generalize (w12.alloc (.cells #[.int .i64 1, .bool false, .slice p4 1 n4] 24)) = w13 at *
  refine (tick_last B C true false v' _ HK4.out HP4.out (by omega)).mono ?_
  rintro e w14 ⟨rfl, rfl⟩
  have HK5 := Lib.hid ((HK4.out.other (C := C) (j := 0) (by omega) (.int .i64 0)).set none)
  have HX5 := Lib.hid ((HX.out.other (C := C) (j := 0) (by omega) (.int .i64 0)).other (C := B) (j := 1) (by omega) (.pointer none))
  have c15 := below_set (below_set c14 C hwC 0 (.int .i64 0)) B hBt 1 (.pointer none)
  clear HK4 HP4 HX c14
  go_wp2_with fail
  refine (tick_no B true _ HK5.out).mono ?_
  rintro e w15 ⟨rfl, rfl⟩
  go_wp2_with fail
  refine (plan_no B true _ HK5.out).mono ?_
  rintro e w16 ⟨rfl, b1⟩
  have HX6 := Lib.hid (HX5.out.below b1)
  have c16 := c15.trans (b1.mono c15.size)
  have a16 := (Below.refl w16.heap.size w16).alloc (Nat.le_refl _) (.cells #[.int .i64 0, .bool false, .slice none 0 0] 24)
  obtain ⟨⟨x0, x1, x2⟩, xf⟩ := HX6.out.below a16
  have c17 := c16.alloc c16.size (.cells #[.int .i64 0, .bool false, .slice none 0 0] 24)
  clear b1 c15 HK5 HX5 HX6 c16 a16 xf
  go_wp2_with fail
  go_ret
  exact ⟨rfl, c17⟩
end Go.Proofs.YtoceeegdbnigeaaDoor
