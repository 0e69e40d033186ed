/-
  The reference's timers: Arm and Copy.
  Conditions: none.
-/
import Derived.Test.YtoceeegdbnigeaaDoorRTim11
set_option linter.unusedVariables false
namespace Go.Proofs.YtoceeegdbnigeaaDoor
open Go Go.RowKit

theorem rarm_bad (B : Nat) (R : Int) (d0 : Bool) (v0 : Value) (A : Int) (d : Bool) (v : Value) (L : List Int) (w : World) (h : RAt w B true R d0 v0) (hv : IntsAt w v L) (hl : L.length ≤ 1099511627776) (hp : planOK A L = false) :
    Calls Tryd.prog 34 #[.pointer (some ⟨B, 0, none⟩), planV A d v] w fun e w' => e = .returned (.int .i64 2) ∧ Below w.heap.size w w' := by
  have HE : Hid (planE A L = 2) := by show _ = _; unfold planE; rw [if_neg (by rw [hp]; decide)]
  have c1 : Below w.heap.size w (w.alloc (.cells #[.int .i64 A, .bool d, v] 24)) := (Below.refl _ _).alloc (Nat.le_refl _) _
  have H := Lib.hid (h.below c1)
  obtain ⟨q0, q1, q2⟩ := planAt_new w A d v 24
  have HV := Lib.hid (hv.below c1)
  have HL := Lib.hid hl
  clear h hv hl hp
  go_enter Tryd.func34, Tryd.ntmps34
  go_wp2_with fail
  refine (valid_any B R d0 v0 _ H.out).mono ?_
  rintro e w0 ⟨rfl, rfl⟩
  go_wp2_with fail
  refine (rcheck_any A d _ L _ HV.out HL.out).mono ?_
  rw [HE.out]
  rintro e w1 ⟨rfl, b1⟩
  have c2 := c1.trans (b1.mono c1.size)
  clear q0 q1 q2 b1 c1
  go_wp2_with fail
  go_ret
  exact ⟨rfl, c2⟩
theorem rarm_end {B : Nat} {w w1 A4 w4 : World} {A R : Int} {d d0 : Bool} {v0 : Value} {q2 : Option Addr} {n2 : Nat} {L : List Int} (hB : B < w.heap.size) (c2 : Below w.heap.size w w1) (a2 : Below w1.heap.size w1 A4) (hown : w4.ownsRow w1.heap.size 3 1 (.slice q2 (0 + L.length) n2) (0 + L.length) ([] ++ L.map (Value.int .i64))) (hgrow : A4.grownBy w4 (Value.slice (some ⟨w1.heap.size, 0, none⟩) 0 0).ownBlock) (hr : RAt w4 B true R d0 v0) :
    KeptBut B w (((w4.setCell ⟨B, 1, none⟩ (.int .i64 A)).setCell ⟨B, 2, none⟩ (.bool d)).setCell ⟨B, 3, none⟩ (.slice q2 L.length n2)) ∧ ∃ v', RAt (((w4.setCell ⟨B, 1, none⟩ (.int .i64 A)).setCell ⟨B, 2, none⟩ (.bool d)).setCell ⟨B, 3, none⟩ (.slice q2 L.length n2)) B true A d v' ∧ IntsNew w.heap.size (((w4.setCell ⟨B, 1, none⟩ (.int .i64 A)).setCell ⟨B, 2, none⟩ (.bool d)).setCell ⟨B, 3, none⟩ (.slice q2 L.length n2)) v' L := by
  have hn : IntsNew w1.heap.size w4 (.slice q2 L.length n2) L := by
    show World.ownsRow _ _ _ _ _ _ _
    rw [Nat.zero_add, List.nil_append] at hown
    exact hown
  have c4 : Below w.heap.size w w4 := (c2.trans (a2.mono c2.size)).grown hgrow (Nat.le_trans c2.size a2.size) fun k hk => by
    have := c2.size
    simp [Value.ownBlock] at hk
    omega
  have hlt : B < w1.heap.size := Nat.lt_of_lt_of_le hB c2.size
  refine ⟨World.grownBy.trans (World.grownBy.trans (World.grownBy.trans (below_grow c4 (some B)) (grownBy_set w4 ⟨B, 1, none⟩ _)) (grownBy_set _ ⟨B, 2, none⟩ _)) (grownBy_set _ ⟨B, 3, none⟩ _), _, ((hr.set1 A).set2 d).set3 _, ?_⟩
  exact (((hn.set ⟨B, 1, none⟩ _ hlt).set ⟨B, 2, none⟩ _ hlt).set ⟨B, 3, none⟩ _ hlt).base c2.size
set_option maxRecDepth 100000 in
set_option maxHeartbeats 4000000 in
theorem rarm_good (B : Nat) (R : Int) (d0 : Bool) (v0 : Value) (A : Int) (d : Bool) (v : Value) (L : List Int) (w : World) (h : RAt w B true R d0 v0) (hv0 : ∃ p n c, v0 = .slice p n c) (hv : IntsAt w v L) (hp : planOK A L = true) :
    Calls Tryd.prog 34 #[.pointer (some ⟨B, 0, none⟩), planV A d v] w fun e w' => e = .returned (.int .i64 0) ∧ KeptBut B w w' ∧ ∃ v', RAt w' B true A d v' ∧ IntsNew w.heap.size w' v' L := by
  have HE : Hid (planE A L = 0) := by show _ = _; unfold planE; rw [if_pos hp]
  have HL := Lib.hid ((planOK_parts hp).2.2.2.1)
  have HBw := Lib.hid h.lt
  have c1 : Below w.heap.size w (w.alloc (.cells #[.int .i64 A, .bool d, v] 24)) := (Below.refl _ _).alloc (Nat.le_refl _) _
  have H := Lib.hid (h.below c1)
  obtain ⟨q0, q1, q2⟩ := planAt_new w A d v 24
  have HV := Lib.hid (hv.below c1)
  obtain ⟨i0, hi0, hz0, hz1, hz2⟩ := info_parts infoInt
  obtain ⟨p, c, rfl, _, _⟩ := hv
  obtain ⟨p9, n9, c9, rfl⟩ := hv0
  clear h hp
  go_enter Tryd.func34, Tryd.ntmps34
  go_wp2_with fail
  refine (valid_any B R d0 _ _ H.out).mono ?_
  rintro e w0 ⟨rfl, rfl⟩
  go_wp2_with fail
  refine (rcheck_any A d _ L _ HV.out (by have := HL.out; omega)).mono ?_
  rw [HE.out]
  rintro e w1 ⟨rfl, b1⟩
  have c2 := c1.trans (b1.mono c1.size)
  replace q0 := cell_kept q0 b1
  replace q1 := cell_kept q1 b1
  replace q2 := cell_kept q2 b1
  have HR1 := Lib.hid (H.out.below b1)
  have HV1 := Lib.hid (HV.out.below b1)
  have HPl : Hid (w.heap.size < w1.heap.size) := World.block_lt_of_cell? _ _ q0
  clear b1 c1 H HV
  have a2 := ((Below.refl w1.heap.size w1).alloc (Nat.le_refl _) (.cells #[] 3)).drew
  have e0 : (w1.alloc (.cells #[] 3)).drew.cell? ⟨w.heap.size, 0, none⟩ = some (.int .i64 A) := cell_kept q0 a2
  have e1 : (w1.alloc (.cells #[] 3)).drew.cell? ⟨w.heap.size, 1, none⟩ = some (.bool d) := cell_kept q1 a2
  have e2 : (w1.alloc (.cells #[] 3)).drew.cell? ⟨w.heap.size, 2, none⟩ = some (.slice p L.length c) := cell_kept q2 a2
  have o0 : w1.drew.cell? ⟨w.heap.size, 0, none⟩ = some (.int .i64 A) := q0
  have o1 : w1.drew.cell? ⟨w.heap.size, 1, none⟩ = some (.bool d) := q1
  have o2 : w1.drew.cell? ⟨w.heap.size, 2, none⟩ = some (.slice p L.length c) := q2
  have HOW : Hid ((w1.alloc (.cells #[] 3)).drew.ownsRow w1.heap.size 3 1 (.slice (some ⟨w1.heap.size, 0, none⟩) 0 0) 0 []) := ownsI_built w1 w1.heap.size (Nat.le_refl _) 3
  have HVe := Lib.hid (HV1.out.below a2)
  have HRe := Lib.hid (HR1.out.below a2)
  have HBl : Hid (B < ((w1.alloc (.cells #[] 3)).drew).heap.size) := HRe.out.lt
  have HBn : Hid (some B ≠ (Value.slice (some ⟨w1.heap.size, 0, none⟩) 0 0).ownBlock) := fun e => by
    have := HR1.out.lt
    simp [Value.ownBlock] at e
    omega
  have HPe : Hid (w.heap.size < ((w1.alloc (.cells #[] 3)).drew).heap.size) := World.block_lt_of_cell? _ _ e0
  have HPn : Hid (some w.heap.size ≠ (Value.slice (some ⟨w1.heap.size, 0, none⟩) 0 0).ownBlock) := fun e => by
    have := HPl.out
    simp [Value.ownBlock] at e
    omega
  clear q0 q1 q2 HV1
  go_wp2_with fail
  go_region_law (refine step_append_ints _ rfl (.tmp 16) (.tmp 18) 22 rfl w1.heap.size 3 i0 (.int .i64 0) Tryd.underlying22 hi0 hz0 hz1 hz2 rfl _ 0 [] rfl HOW.out _ L rfl HVe.out (by have := HL.out; omega) (by simp) ?_; intro v2 w4 hown hgrow; obtain ⟨q2, n2, rfl⟩ := ownsRow_slice hown; have hbB := hgrow.block w.heap.size HPe.out HPn.out; have g0 := (World.cell?_of_block hbB).trans e0; have g1 := (World.cell?_of_block hbB).trans e1; have g2 := (World.cell?_of_block hbB).trans e2; have HRg := Lib.hid (HRe.out.block (hgrow.block B HBl.out HBn.out)); obtain ⟨⟨s0, s1, s2, s3⟩, sf⟩ := HRe.out.block (hgrow.block B HBl.out HBn.out); have sf1 := sf 1; have sf2 := sf 2; have sf3 := sf 3)
  all_goals
    go_wp2_with fail
    go_ret
    exact ⟨rfl, rarm_end (A4 := .drew (.alloc w1 (.cells #[] 3))) HBw.out c2 a2 hown hgrow HRg.out⟩
theorem rcopy_nil (w : World) :
    Calls Tryd.prog 38 #[.pointer none] w fun e w' => e = .returned (.pointer none) ∧ w = w' := by
  go_enter Tryd.func38, Tryd.ntmps38
  go_wp2_with fail
  refine (valid_nil _).mono ?_
  rintro e w0 ⟨rfl, rfl⟩
  go_wp2_with fail
  go_ret
  exact ⟨rfl, rfl⟩
theorem rcopy_end {w A4 w4 : World} {R : Int} {d : Bool} {q2 : Option Addr} {n2 : Nat} {L : List Int} (a2 : Below w.heap.size w A4) (hown : w4.ownsRow w.heap.size 3 1 (.slice q2 (0 + L.length) n2) (0 + L.length) ([] ++ L.map (Value.int .i64))) (hgrow : A4.grownBy w4 (Value.slice (some ⟨w.heap.size, 0, none⟩) 0 0).ownBlock) :
    ∃ B' v', Value.pointer (some ⟨w4.heap.size, 0, none⟩) = .pointer (some ⟨B', 0, none⟩) ∧ w.heap.size ≤ B' ∧ Below w.heap.size w (w4.alloc (.cells #[.bool true, .int .i64 R, .bool d, .slice q2 L.length n2] 81)) ∧ RAt (w4.alloc (.cells #[.bool true, .int .i64 R, .bool d, .slice q2 L.length n2] 81)) B' true R d v' ∧ IntsNew w.heap.size (w4.alloc (.cells #[.bool true, .int .i64 R, .bool d, .slice q2 L.length n2] 81)) v' L ∧ v'.ownBlock ≠ some B' := by
  have hn : IntsNew w.heap.size w4 (.slice q2 L.length n2) L := by
    show World.ownsRow _ _ _ _ _ _ _
    rw [Nat.zero_add, List.nil_append] at hown
    exact hown
  have c4 : Below w.heap.size w w4 := a2.grown hgrow a2.size fun k hk => by
    simp [Value.ownBlock] at hk
    omega
  have a5 := (Below.refl w4.heap.size w4).alloc (Nat.le_refl _) (.cells #[.bool true, .int .i64 R, .bool d, .slice q2 L.length n2] 81)
  exact ⟨w4.heap.size, _, rfl, c4.size, c4.alloc c4.size _, RAt.new w4 true R d _ _, hn.below a5, fun e => by have := (World.ownsRow.lt hn _ e).2; omega⟩
set_option maxRecDepth 100000 in
set_option maxHeartbeats 4000000 in
theorem rcopy_any (B : Nat) (R : Int) (d : Bool) (v : Value) (L : List Int) (w : World) (h : RAt w B true R d v) (hv : IntsAt w v L) (hl : L.length ≤ 100000) :
    Calls Tryd.prog 38 #[.pointer (some ⟨B, 0, none⟩)] w fun e w' => ∃ B' v', e = .returned (.pointer (some ⟨B', 0, none⟩)) ∧ w.heap.size ≤ B' ∧ Below w.heap.size w w' ∧ RAt w' B' true R d v' ∧ IntsNew w.heap.size w' v' L ∧ v'.ownBlock ≠ some B' := by
  have H := Lib.hid h
  have HV := Lib.hid hv
  have HL := Lib.hid hl
  obtain ⟨⟨h0, h1, h2, h3⟩, h4⟩ := h
  obtain ⟨i0, hi0, hz0, hz1, hz2⟩ := info_parts infoInt
  obtain ⟨p, c, rfl, _, _⟩ := hv
  have a2 := ((Below.refl w.heap.size w).alloc (Nat.le_refl _) (.cells #[] 3)).drew
  have e1 : (w.alloc (.cells #[] 3)).drew.cell? ⟨B, 1, none⟩ = some (.int .i64 R) := cell_kept h1 a2
  have e2 : (w.alloc (.cells #[] 3)).drew.cell? ⟨B, 2, none⟩ = some (.bool d) := cell_kept h2 a2
  have e3 : (w.alloc (.cells #[] 3)).drew.cell? ⟨B, 3, none⟩ = some (.slice p L.length c) := cell_kept h3 a2
  have HOW : Hid ((w.alloc (.cells #[] 3)).drew.ownsRow w.heap.size 3 1 (.slice (some ⟨w.heap.size, 0, none⟩) 0 0) 0 []) := ownsI_built w w.heap.size (Nat.le_refl _) 3
  have HVe := Lib.hid (HV.out.below a2)
  have HBl : Hid (B < ((w.alloc (.cells #[] 3)).drew).heap.size) := World.block_lt_of_cell? _ _ e1
  have HBn : Hid (some B ≠ (Value.slice (some ⟨w.heap.size, 0, none⟩) 0 0).ownBlock) := fun e => by
    have := H.out.lt
    simp [Value.ownBlock] at e
    omega
  clear h4 hl
  go_enter Tryd.func38, Tryd.ntmps38
  go_wp2_with fail
  refine (valid_any B R d _ _ H.out).mono ?_
  rintro e w0 ⟨rfl, rfl⟩
  go_wp2_with fail
  go_region_law (refine step_append_ints _ rfl (.tmp 16) (.tmp 21) 22 rfl w.heap.size 3 i0 (.int .i64 0) Tryd.underlying22 hi0 hz0 hz1 hz2 rfl _ 0 [] rfl HOW.out _ L rfl HVe.out (by have := HL.out; omega) (by simp) ?_; intro v2 w4 hown hgrow; obtain ⟨q2, n2, rfl⟩ := ownsRow_slice hown; have hbB := hgrow.block B HBl.out HBn.out; have g1 := (World.cell?_of_block hbB).trans e1; have g2 := (World.cell?_of_block hbB).trans e2; have g3 := (World.cell?_of_block hbB).trans e3)
  all_goals
    go_wp2_with fail
    go_ret
    obtain ⟨B', v', hq, rest⟩ := rcopy_end (R := R) (d := d) (A4 := .drew (.alloc w (.cells #[] 3))) a2 hown hgrow
    exact ⟨B', v', congrArg Ending.returned hq, rest⟩
end Go.Proofs.YtoceeegdbnigeaaDoor
