/-
  FaultPlays: the walk.
  Conditions: the library's tables and variables lie in the world.
-/
import Derived.Test.YtoceeegdbnigeaaDoorWl11b
import Derived.Test.YtoceeegdbnigeaaDoorFoot11c
import Derived.Test.YtoceeegdbnigeaaDoorSteps11
import Derived.Deep.CutRange
import Derived.Deep.CutBlock
import Derived.BigFrame
set_option linter.unusedVariables false
namespace Go.Proofs.YtoceeegdbnigeaaDoor
open Go Go.RowKit

theorem arms_b {w w3 : World} {A : Int} {d : Bool} {L : List Int} {D : Nat} (q : Option Addr) (n : Nat) (hn : IntsNew D w3 (.slice q L.length n) L) (hp : PlanAt w3 w.heap.size 0 false (.slice none 0 0)) (hD : w.heap.size < D) (cB : Below w.heap.size w w3) :
    ∃ C' q' n', Value.pointer (some ⟨w.heap.size, 0, none⟩) = .pointer (some ⟨C', 0, none⟩) ∧ Hid (PlanAt (((w3.setCell ⟨w.heap.size, 0, none⟩ (.int .i64 A)).setCell ⟨w.heap.size, 1, none⟩ (.bool d)).setCell ⟨w.heap.size, 2, none⟩ (.slice q L.length n)) C' A d (.slice q' L.length n')) ∧ Hid (IntsNew w.heap.size (((w3.setCell ⟨w.heap.size, 0, none⟩ (.int .i64 A)).setCell ⟨w.heap.size, 1, none⟩ (.bool d)).setCell ⟨w.heap.size, 2, none⟩ (.slice q L.length n)) (.slice q' L.length n') L) ∧ w.heap.size ≤ C' ∧ Hid (Below w.heap.size w (((w3.setCell ⟨w.heap.size, 0, none⟩ (.int .i64 A)).setCell ⟨w.heap.size, 1, none⟩ (.bool d)).setCell ⟨w.heap.size, 2, none⟩ (.slice q L.length n))) :=
  ⟨w.heap.size, q, n, rfl, Lib.hid (hp.set A d (.slice q L.length n)), Lib.hid ((((hn.set ⟨w.heap.size, 0, none⟩ _ hD).set ⟨w.heap.size, 1, none⟩ _ hD).set ⟨w.heap.size, 2, none⟩ _ hD).base (Nat.le_of_lt hD)), Nat.le_refl _, Lib.hid (below_set (below_set (below_set cB _ (Nat.le_refl _) 0 _) _ (Nat.le_refl _) 1 _) _ (Nat.le_refl _) 2 _)⟩
theorem set3_off {w : World} {B C o : Nat} {v : Value} (hc : w.cell? ⟨C, o, none⟩ = some v) (h : C ≠ B) (v0 v1 v2 : Value) : (((w.setCell ⟨B, 0, none⟩ v0).setCell ⟨B, 1, none⟩ v1).setCell ⟨B, 2, none⟩ v2).cell? ⟨C, o, none⟩ = some v :=
  (World.cell?_of_block (a := ⟨C, o, none⟩) (set3_heap w B C h v0 v1 v2)).trans hc
set_option maxRecDepth 100000 in
set_option maxHeartbeats 8000000 in
theorem walkFaultPlays (v : Value) (n : Nat) (m : Int) (w : World) (hv : StepsAt w v n) (ht : Tab w) (he : Errs w) (hm : w.cell? ⟨0, 0, none⟩ = some (.int .i64 m)) :
    Calls Tryd.prog 9 #[v] w fun e w' => e = .returned (.bool true) ∧ Below w.heap.size w w' := by
  have HT := Lib.hid ht
  have HE := Lib.hid he
  have HM := Lib.hid hm
  have HV := Lib.hid hv
  obtain ⟨p, c, rfl, hel⟩ := hv
  clear ht he hm
  by_cases hn : n ≤ 100
  · have d1 : decide (100 < (n : Int)) = false := by rw [decide_eq_false_iff_not]; omega
    have HN100 := Lib.hid hn
    have HEL := Lib.hid hel
    clear hn hel
    go_enter Tryd.func9, Tryd.ntmps9
    go_wp2_with fail
    refine (new_any _).mono ?_
    rintro e w1 ⟨rfl, rfl⟩
    go_wp2_with fail
    refine (rnew_any _).mono ?_
    rintro e w2 ⟨rfl, rfl⟩
    rw [World.size_alloc]
    have HL := Lib.hid (live_new w 63 81)
    generalize ((w.alloc (.cells #[.bool true, .pointer none] 63)).alloc (.cells #[.bool true, .int .i64 0, .bool false, .slice none 0 0] 81)) = w3 at *
    go_wp2_with fail
    go_loopw [3, 4, 5, 6, 26] (fun vt vr vo vu vi wr => ∃ (i B C : Nat) (R : Int) (d : Bool) (K : List Int) (po qo : Option Addr) (Ro : Int) (dO : Bool) (Ko : List Int), i ≤ n ∧ vi = .int .i64 i ∧ vt = .pointer (some ⟨B, 0, none⟩) ∧ vr = .pointer (some ⟨C, 0, none⟩) ∧ vo = .pointer po ∧ vu = .pointer qo ∧ Hid (LiveE w.heap.size w wr (fun _ => False) B C R d K R d K po qo Ro dO Ko)) (fun _ _ _ _ vi _ => n - (intOf vi).toNat)
    case atStart => exact ⟨0, _, _, _, _, _, _, _, _, _, _, Nat.zero_le _, rfl, rfl, rfl, rfl, rfl, HL⟩
    case round =>
      clear HL
      obtain ⟨i, B, C, R, d, K, po, qo, Ro, dO, Ko, hi, rfl, rfl, rfl, rfl, rfl, HL⟩ := hrel
      by_cases hlt : i < n
      · obtain ⟨b, o, rfl, hE⟩ := HEL.out (by omega)
        obtain ⟨x, A, dx, q, cq, X, hx0, hx1, e0, e1, e2, e3, e4⟩ := hE i hlt
        have bR := HL.out.old
        replace e0 := cell_kept e0 bR
        replace e1 := cell_kept e1 bR
        replace e2 := cell_kept e2 bR
        replace e3 := cell_kept e3 bR
        have HX0 := Lib.hid (e4.below bR)
        have HXw := Lib.hid e4
        have HWr := Lib.hid bR.size
        obtain ⟨M, hM⟩ : ∃ M, wr.heap.size = M := ⟨_, rfl⟩
        have a1 := (Below.refl wr.heap.size wr).alloc (Nat.le_refl _) (.cells #[.int .u8 x, .int .i64 A, .bool dx, .slice q X.length cq] 59)
        have r0 := new_cell (w := wr) #[.int .u8 x, .int .i64 A, .bool dx, .slice q X.length cq] 59 0 _ rfl
        have r1 := new_cell (w := wr) #[.int .u8 x, .int .i64 A, .bool dx, .slice q X.length cq] 59 1 _ rfl
        have r2 := new_cell (w := wr) #[.int .u8 x, .int .i64 A, .bool dx, .slice q X.length cq] 59 2 _ rfl
        have r3 := new_cell (w := wr) #[.int .u8 x, .int .i64 A, .bool dx, .slice q X.length cq] 59 3 _ rfl
        rw [hM] at r0 r1 r2 r3
        have HX := Lib.hid (HX0.out.below a1)
        clear hE e4 bR HX0
        go_wp2_with fail
        generalize (wr.alloc (.cells #[.int .u8 x, .int .i64 A, .bool dx, .slice q X.length cq] 59)) = w1 at *
        clear e0 e1 e2 e3
        obtain ⟨sb, hsb⟩ : ∃ sb, decide (X.length ≤ 100) = sb := ⟨_, rfl⟩
        refine (short_any A dx _ X sb hsb _ HX.out).mono ?_
        rintro e w2 ⟨rfl, b2⟩
        have b12 := a1.trans (b2.mono a1.size)
        have HG := Lib.hid (HL.out.grab b12)
        have HXX := Lib.hid (HX.out.below b2)
        replace r0 := cell_kept r0 b2
        replace r1 := cell_kept r1 b2
        replace r2 := cell_kept r2 b2
        replace r3 := cell_kept r3 b2
        have HB12 := Lib.hid b12
        clear a1 b2 b12 HX
        cases sb with
        | false =>
          have c1 := HG.out.old
          go_wp2_with fail
          refine (works_any m _ (HT.out.below c1) (HE.out.below c1) (cell_kept HM.out c1)).mono ?_
          rintro y w9 ⟨rfl, b9⟩
          have c2 := c1.trans (b9.mono c1.size)
          go_wp2_with fail
          go_ret
          exact ⟨rfl, c2⟩
        | true =>
          have hX : X.length ≤ 100 := of_decide_eq_true hsb
          have HXl := Lib.hid hX
          obtain ⟨y, hy⟩ : ∃ y, x % 8 = y := ⟨_, rfl⟩
          have hy8 : y = 0 ∨ y = 1 ∨ y = 2 ∨ y = 3 ∨ y = 4 ∨ y = 5 ∨ y = 6 ∨ y = 7 := by omega
          have x1 : x.tmod 8 = y := by rw [Int.tmod_eq_emod_of_nonneg hx0]; exact hy
          have x2 : IntKind.u8.wrap y = y := by rw [IntKind.wrap_u8]; omega
          obtain ⟨tb, htb⟩ : ∃ tb, decide (R = 1) = tb := ⟨_, rfl⟩
          have hbb : (tb == tb) = true := beq_self_eq_true _
          have HLt := Lib.hid hlt
          have HMh := Lib.hid hM
          clear hsb hX hy hx0 hx1 HL hlt hM
          go_upto_block 2 with fail
          go_cut [3, 4, 5, 6, 9] from 35 to 92 (fun vt vr vo vu _ wx => ∃ (B C : Nat) (R : Int) (d : Bool) (K : List Int) (po qo : Option Addr) (Ro : Int) (dO : Bool) (Ko : List Int), vt = .pointer (some ⟨B, 0, none⟩) ∧ vr = .pointer (some ⟨C, 0, none⟩) ∧ vo = .pointer po ∧ vu = .pointer qo ∧ Hid (LiveE w.heap.size w wx (fun _ => False) B C R d K R d K po qo Ro dO Ko))
          case first =>
            go_upto_if 38 with fail
            obtain ⟨k3, hk3⟩ : ∃ k3, decide (y ≤ 3) = k3 := ⟨_, rfl⟩
            have Hk3 := Lib.hid hk3
            clear hk3
            go_cut [38] from 40 to 42 (fun b wx => b = .bool k3 ∧ Hid (wx = w2))
            case first =>
              rcases hy8 with rfl | rfl | rfl | rfl | rfl | rfl | rfl | rfl
              · skip
                obtain rfl : k3 = true := by rw [← Hk3.out]; rfl
                clear Hk3
                go_wp2_with fail
                go_meet
                exact ⟨rfl, rfl⟩
              · skip
                obtain rfl : k3 = true := by rw [← Hk3.out]; rfl
                clear Hk3
                go_wp2_with fail
                go_meet
                exact ⟨rfl, rfl⟩
              · skip
                obtain rfl : k3 = true := by rw [← Hk3.out]; rfl
                clear Hk3
                go_wp2_with fail
                go_meet
                exact ⟨rfl, rfl⟩
              · skip
                obtain rfl : k3 = true := by rw [← Hk3.out]; rfl
                clear Hk3
                go_wp2_with fail
                go_meet
                exact ⟨rfl, rfl⟩
              · skip
                obtain rfl : k3 = false := by rw [← Hk3.out]; rfl
                clear Hk3
                go_wp2_with fail
                go_meet
                exact ⟨rfl, rfl⟩
              · skip
                obtain rfl : k3 = false := by rw [← Hk3.out]; rfl
                clear Hk3
                go_wp2_with fail
                go_meet
                exact ⟨rfl, rfl⟩
              · skip
                obtain rfl : k3 = false := by rw [← Hk3.out]; rfl
                clear Hk3
                go_wp2_with fail
                go_meet
                exact ⟨rfl, rfl⟩
              · skip
                obtain rfl : k3 = false := by rw [← Hk3.out]; rfl
                clear Hk3
                go_wp2_with fail
                go_meet
                exact ⟨rfl, rfl⟩
            case rest =>
              obtain ⟨rfl, hw⟩ := hcut
              obtain rfl := hw.out.symm
              clear hw
              go_upto_if 38 with fail
              rcases hy8 with rfl | rfl | rfl | rfl | rfl | rfl | rfl | rfl
              · skip
                obtain rfl : k3 = true := by rw [← Hk3.out]; rfl
                clear Hk3
                go_wp2_with fail
                refine (live_tick HG.out).mono ?_
                rw [htb]
                rintro e w5 ⟨rfl, h5, _⟩
                have H5 := Lib.hid h5
                clear h5
                go_wp2_with fail
                refine (live_rtick H5.out).mono ?_
                rw [htb]
                rintro e w6 ⟨rfl, h6, _⟩
                go_wp2_with fail
                go_meet
                exact ⟨B, C, _, _, _, po, qo, _, _, _, rfl, rfl, rfl, rfl, h6.drop fun k e => e.elim⟩
              · skip
                obtain rfl : k3 = true := by rw [← Hk3.out]; rfl
                clear Hk3
                go_wp2_with fail
                refine (live_tick HG.out).mono ?_
                rw [htb]
                rintro e w5 ⟨rfl, h5, _⟩
                have H5 := Lib.hid h5
                clear h5
                go_wp2_with fail
                refine (live_rtick H5.out).mono ?_
                rw [htb]
                rintro e w6 ⟨rfl, h6, _⟩
                go_wp2_with fail
                go_meet
                exact ⟨B, C, _, _, _, po, qo, _, _, _, rfl, rfl, rfl, rfl, h6.drop fun k e => e.elim⟩
              · skip
                obtain rfl : k3 = true := by rw [← Hk3.out]; rfl
                clear Hk3
                go_wp2_with fail
                refine (live_tick HG.out).mono ?_
                rw [htb]
                rintro e w5 ⟨rfl, h5, _⟩
                have H5 := Lib.hid h5
                clear h5
                go_wp2_with fail
                refine (live_rtick H5.out).mono ?_
                rw [htb]
                rintro e w6 ⟨rfl, h6, _⟩
                go_wp2_with fail
                go_meet
                exact ⟨B, C, _, _, _, po, qo, _, _, _, rfl, rfl, rfl, rfl, h6.drop fun k e => e.elim⟩
              · skip
                obtain rfl : k3 = true := by rw [← Hk3.out]; rfl
                clear Hk3
                go_wp2_with fail
                refine (live_tick HG.out).mono ?_
                rw [htb]
                rintro e w5 ⟨rfl, h5, _⟩
                have H5 := Lib.hid h5
                clear h5
                go_wp2_with fail
                refine (live_rtick H5.out).mono ?_
                rw [htb]
                rintro e w6 ⟨rfl, h6, _⟩
                go_wp2_with fail
                go_meet
                exact ⟨B, C, _, _, _, po, qo, _, _, _, rfl, rfl, rfl, rfl, h6.drop fun k e => e.elim⟩
              · skip
                obtain rfl : k3 = false := by rw [← Hk3.out]; rfl
                clear Hk3
                go_wp2_with fail
                go_cut [9] from 51 to 61 (fun a wx => ∃ Cb q' n', a = .pointer (some ⟨Cb, 0, none⟩) ∧ Hid (PlanAt wx Cb A dx (.slice q' X.length n')) ∧ Hid (IntsNew w2.heap.size wx (.slice q' X.length n') X) ∧ w2.heap.size ≤ Cb ∧ Hid (Below w2.heap.size w2 wx))
                case first =>
                  have k1d : w2.drew.cell? ⟨M, 1, none⟩ = some (.int .i64 A) := r1
                  have k2d : w2.drew.cell? ⟨M, 2, none⟩ = some (.bool dx) := r2
                  have k3d : w2.drew.cell? ⟨M, 3, none⟩ = some (.slice q X.length cq) := r3
                  have a1 := (Below.refl w2.heap.size w2).alloc (Nat.le_refl _) (.cells #[.int .i64 0, .bool false, .slice none 0 0] 24)
                  have l1 : (w2.alloc (.cells #[.int .i64 0, .bool false, .slice none 0 0] 24)).drew.cell? ⟨M, 1, none⟩ = some (.int .i64 A) := cell_kept r1 a1.drew
                  have l2 : (w2.alloc (.cells #[.int .i64 0, .bool false, .slice none 0 0] 24)).drew.cell? ⟨M, 2, none⟩ = some (.bool dx) := cell_kept r2 a1.drew
                  have l3 : (w2.alloc (.cells #[.int .i64 0, .bool false, .slice none 0 0] 24)).drew.cell? ⟨M, 3, none⟩ = some (.slice q X.length cq) := cell_kept r3 a1.drew
                  have cd := (Below.refl w2.heap.size w2).drew
                  have ce : Below w2.heap.size w2 (w2.alloc (.cells #[.int .i64 0, .bool false, .slice none 0 0] 24)).drew := a1.drew
                  have HZ : Hid (PlanAt (w2.alloc (.cells #[.int .i64 0, .bool false, .slice none 0 0] 24)).drew w2.heap.size 0 false (.slice none 0 0)) := PlanAt.new w2 0 false (.slice none 0 0) 24
                  have hMD : M ≠ w2.heap.size := Nat.ne_of_lt (World.block_lt_of_cell? _ _ r1)
                  clear r0 r1 r2 r3
                  go_region_held3 (fun w' => w'.cell? ⟨M, 1, none⟩ = some (.int .i64 A) ∧ w'.cell? ⟨M, 2, none⟩ = some (.bool dx) ∧ w'.cell? ⟨M, 3, none⟩ = some (.slice q X.length cq))
                    (first
                      | with_reducible exact ⟨k1d, k2d, k3d⟩
                      | with_reducible exact ⟨l1, l2, l3⟩
                      | with_reducible exact ⟨j1, j2, j3⟩
                      | with_reducible exact ⟨i1, i2, i3⟩
                      | with_reducible exact ⟨n1, n2, n3⟩
                      | with_reducible exact ⟨set3_off j1 hMD _ _ _, set3_off j2 hMD _ _ _, set3_off j3 hMD _ _ _⟩)
                    (first
                      | (go_at_call 14; refine (clone_any _ X _ (HXX.out.below cd) (by have := HXl.out; omega)).mono ?_; rintro e w4 ⟨v4, rfl, hn4, b1⟩; obtain ⟨q', n', rfl⟩ := ownsRow_slice hn4; have j1 := cell_kept k1d b1; have j2 := cell_kept k2d b1; have j3 := cell_kept k3d b1; have i1 := cell_old (o := .cells #[.int .i64 0, .bool false, .slice none 0 0] 24) j1; have i2 := cell_old (o := .cells #[.int .i64 0, .bool false, .slice none 0 0] 24) j2; have i3 := cell_old (o := .cells #[.int .i64 0, .bool false, .slice none 0 0] 24) j3; have n1 := cell_old (o := .cells #[.int .i64 A, .bool dx, .slice q' X.length n'] 24) j1; have n2 := cell_old (o := .cells #[.int .i64 A, .bool dx, .slice q' X.length n'] 24) j2; have n3 := cell_old (o := .cells #[.int .i64 A, .bool dx, .slice q' X.length n'] 24) j3; have cA := cd.trans (b1.mono cd.size))
                      | (go_at_call 14; refine (clone_any _ X _ (HXX.out.below ce) (by have := HXl.out; omega)).mono ?_; rintro e w4 ⟨v4, rfl, hn4, b1⟩; obtain ⟨q', n', rfl⟩ := ownsRow_slice hn4; have j1 := cell_kept l1 b1; have j2 := cell_kept l2 b1; have j3 := cell_kept l3 b1; have cB := ce.trans (b1.mono ce.size); have HP2 := Lib.hid (HZ.out.below b1); obtain ⟨⟨p0, p1, p2⟩, pf⟩ := HZ.out.below b1; have pf0 := pf 0; have pf1 := pf 1; have pf2 := pf 2))
                  all_goals
                    go_wp2_with fail
                    go_meet
                    first
                      | exact ⟨_, q', n', rfl, Lib.hid (PlanAt.new w4 A dx (.slice q' X.length n') 24), Lib.hid (IntsNew.below hn4 ((Below.refl _ _).alloc (Nat.le_refl _) _)), cA.size, Lib.hid (cA.alloc cA.size _)⟩
                      | exact arms_b q' n' hn4 HP2.out (by simp) cB
                case rest =>
                  obtain ⟨Cb, q', n', rfl, HP, HN, hCb, HB⟩ := hcut
                  have HGx := Lib.hid (HG.out.grab HB.out)
                  have zM : Hid (More (More (fun _ => False) wr w2) w2 wc M) := Lib.hid (Or.inl (Or.inr ⟨Nat.le_of_eq HMh.out, World.block_lt_of_cell? _ _ r1⟩))
                  replace r1 := cell_kept r1 HB.out
                  replace r2 := cell_kept r2 HB.out
                  replace r3 := cell_kept r3 HB.out
                  obtain ⟨⟨p0, p1, p2⟩, pf⟩ := HP.out
                  have zC : Hid (More (More (fun _ => False) wr w2) w2 wc Cb) := Lib.hid (Or.inr ⟨hCb, World.block_lt_of_cell? _ _ p0⟩)
                  have zN : Hid (∀ k, (Value.slice q' X.length n').ownBlock = some k → More (More (fun _ => False) wr w2) w2 wc k) := Lib.hid fun k hk => Or.inr (World.ownsRow.lt HN.out k hk)
                  have hpe : (planE A X != planE A X) = false := by simp
                  have HAX : Hid (∃ z, z = planE A X) := ⟨_, rfl⟩
                  clear r0 pf HP hCb
                  go_wp2_with fail
                  have p0d : wc.drew.cell? ⟨Cb, 0, none⟩ = some (.int .i64 A) := p0
                  have p1d : wc.drew.cell? ⟨Cb, 1, none⟩ = some (.bool dx) := p1
                  have p2d : wc.drew.cell? ⟨Cb, 2, none⟩ = some (.slice q' X.length n') := p2
                  have r1d : wc.drew.cell? ⟨M, 1, none⟩ = some (.int .i64 A) := r1
                  have r2d : wc.drew.cell? ⟨M, 2, none⟩ = some (.bool dx) := r2
                  have r3d : wc.drew.cell? ⟨M, 3, none⟩ = some (.slice q X.length cq) := r3
                  have HGd := Lib.hid (HGx.out.below (Below.refl _ _).drew)
                  have HNd := Lib.hid (HN.out.below (Below.refl _ _).drew)
                  clear p0 p1 p2 r1 r2 r3 HGx HN HB HG HXX
                  go_region_held3 (fun w' => w'.cell? ⟨Cb, 0, none⟩ = some (.int .i64 A) ∧ w'.cell? ⟨Cb, 1, none⟩ = some (.bool dx) ∧ w'.cell? ⟨Cb, 2, none⟩ = some (.slice q' X.length n') ∧ w'.cell? ⟨M, 1, none⟩ = some (.int .i64 A) ∧ w'.cell? ⟨M, 2, none⟩ = some (.bool dx) ∧ w'.cell? ⟨M, 3, none⟩ = some (.slice q X.length cq))
                    (first
                      | with_reducible exact ⟨p0d, p1d, p2d, r1d, r2d, r3d⟩
                      | with_reducible exact ⟨s0, s1, s2, s3, s4, s5⟩
                      | with_reducible exact ⟨t0, t1, t2, t3, t4, t5⟩
                      | with_reducible exact ⟨u0, u1, u2, u3, u4, u5⟩)
                    (first
                      | (go_at_call 26; refine (live_arm HGd.out A dx _ X (IntsNew.at HNd.out) (by have := HXl.out; omega)).mono ?_; rintro y w5 ⟨rfl, h5, o5⟩; have H5 := Lib.hid h5; have s0 := o5.cellZ p0d zC.out; have s1 := o5.cellZ p1d zC.out; have s2 := o5.cellZ p2d zC.out; have s3 := o5.cellZ r1d zM.out; have s4 := o5.cellZ r2d zM.out; have s5 := o5.cellZ r3d zM.out; have HN5 := Lib.hid (o5.newZ HNd.out zN.out); clear h5 o5)
                      | (go_at_call 34; refine (live_rarm H5.out A dx _ X (HXw.out.below H5.out.old) (by have := HXl.out; omega)).mono ?_; rintro y w6 ⟨rfl, h6, o6⟩; have H6 := Lib.hid h6; have t0 := o6.cellZ s0 zC.out; have t1 := o6.cellZ s1 zC.out; have t2 := o6.cellZ s2 zC.out; have t3 := o6.cellZ s3 zM.out; have t4 := o6.cellZ s4 zM.out; have t5 := o6.cellZ s5 zM.out; have HN6 := Lib.hid (o6.newZ HN5.out zN.out); clear h6 o6)
                      | (go_at_call 21; refine (same_any A dx _ X A dx _ X _ (IntsNew.at HN6.out) (HXw.out.below H6.out.old) (by have := HXl.out; omega) (by have := HXl.out; omega)).mono ?_; rw [sameB_self]; rintro y w7 ⟨rfl, b7⟩; have u0 := cell_kept t0 b7; have u1 := cell_kept t1 b7; have u2 := cell_kept t2 b7; have u3 := cell_kept t3 b7; have u4 := cell_kept t4 b7; have u5 := cell_kept t5 b7; have HN7 := Lib.hid (HN6.out.below b7); have H7 := Lib.hid (H6.out.below b7); clear b7))
                  obtain ⟨w8, hcl, hon⟩ := clear_new w2.heap.size _ _ _ HN7.out
                  have HF := Lib.hid (H7.out.inZ (fun k hk => by have g1 := HWr.out; have g2 := HB12.out.size; rcases hk with (hk | hk) | hk; exact hk.elim; omega; omega) (hon.weak fun k _ e => zN.out k e))
                  clear hon u0 u1 u3 u4 u5 HN7 H7 HN6 H6 HN5 H5 HNd HGd
                  go_wp2_with fail
                  go_meet
                  exact ⟨B, C, _, _, _, po, qo, _, _, _, rfl, rfl, rfl, rfl, HF.out.drop fun k e => e.elim⟩
              · skip
                obtain rfl : k3 = false := by rw [← Hk3.out]; rfl
                clear Hk3
                go_wp2_with fail
                go_cut [9] from 51 to 61 (fun a wx => ∃ Cb q' n', a = .pointer (some ⟨Cb, 0, none⟩) ∧ Hid (PlanAt wx Cb A dx (.slice q' X.length n')) ∧ Hid (IntsNew w2.heap.size wx (.slice q' X.length n') X) ∧ w2.heap.size ≤ Cb ∧ Hid (Below w2.heap.size w2 wx))
                case first =>
                  have k1d : w2.drew.cell? ⟨M, 1, none⟩ = some (.int .i64 A) := r1
                  have k2d : w2.drew.cell? ⟨M, 2, none⟩ = some (.bool dx) := r2
                  have k3d : w2.drew.cell? ⟨M, 3, none⟩ = some (.slice q X.length cq) := r3
                  have a1 := (Below.refl w2.heap.size w2).alloc (Nat.le_refl _) (.cells #[.int .i64 0, .bool false, .slice none 0 0] 24)
                  have l1 : (w2.alloc (.cells #[.int .i64 0, .bool false, .slice none 0 0] 24)).drew.cell? ⟨M, 1, none⟩ = some (.int .i64 A) := cell_kept r1 a1.drew
                  have l2 : (w2.alloc (.cells #[.int .i64 0, .bool false, .slice none 0 0] 24)).drew.cell? ⟨M, 2, none⟩ = some (.bool dx) := cell_kept r2 a1.drew
                  have l3 : (w2.alloc (.cells #[.int .i64 0, .bool false, .slice none 0 0] 24)).drew.cell? ⟨M, 3, none⟩ = some (.slice q X.length cq) := cell_kept r3 a1.drew
                  have cd := (Below.refl w2.heap.size w2).drew
                  have ce : Below w2.heap.size w2 (w2.alloc (.cells #[.int .i64 0, .bool false, .slice none 0 0] 24)).drew := a1.drew
                  have HZ : Hid (PlanAt (w2.alloc (.cells #[.int .i64 0, .bool false, .slice none 0 0] 24)).drew w2.heap.size 0 false (.slice none 0 0)) := PlanAt.new w2 0 false (.slice none 0 0) 24
                  have hMD : M ≠ w2.heap.size := Nat.ne_of_lt (World.block_lt_of_cell? _ _ r1)
                  clear r0 r1 r2 r3
                  go_region_held3 (fun w' => w'.cell? ⟨M, 1, none⟩ = some (.int .i64 A) ∧ w'.cell? ⟨M, 2, none⟩ = some (.bool dx) ∧ w'.cell? ⟨M, 3, none⟩ = some (.slice q X.length cq))
                    (first
                      | with_reducible exact ⟨k1d, k2d, k3d⟩
                      | with_reducible exact ⟨l1, l2, l3⟩
                      | with_reducible exact ⟨j1, j2, j3⟩
                      | with_reducible exact ⟨i1, i2, i3⟩
                      | with_reducible exact ⟨n1, n2, n3⟩
                      | with_reducible exact ⟨set3_off j1 hMD _ _ _, set3_off j2 hMD _ _ _, set3_off j3 hMD _ _ _⟩)
                    (first
                      | (go_at_call 14; refine (clone_any _ X _ (HXX.out.below cd) (by have := HXl.out; omega)).mono ?_; rintro e w4 ⟨v4, rfl, hn4, b1⟩; obtain ⟨q', n', rfl⟩ := ownsRow_slice hn4; have j1 := cell_kept k1d b1; have j2 := cell_kept k2d b1; have j3 := cell_kept k3d b1; have i1 := cell_old (o := .cells #[.int .i64 0, .bool false, .slice none 0 0] 24) j1; have i2 := cell_old (o := .cells #[.int .i64 0, .bool false, .slice none 0 0] 24) j2; have i3 := cell_old (o := .cells #[.int .i64 0, .bool false, .slice none 0 0] 24) j3; have n1 := cell_old (o := .cells #[.int .i64 A, .bool dx, .slice q' X.length n'] 24) j1; have n2 := cell_old (o := .cells #[.int .i64 A, .bool dx, .slice q' X.length n'] 24) j2; have n3 := cell_old (o := .cells #[.int .i64 A, .bool dx, .slice q' X.length n'] 24) j3; have cA := cd.trans (b1.mono cd.size))
                      | (go_at_call 14; refine (clone_any _ X _ (HXX.out.below ce) (by have := HXl.out; omega)).mono ?_; rintro e w4 ⟨v4, rfl, hn4, b1⟩; obtain ⟨q', n', rfl⟩ := ownsRow_slice hn4; have j1 := cell_kept l1 b1; have j2 := cell_kept l2 b1; have j3 := cell_kept l3 b1; have cB := ce.trans (b1.mono ce.size); have HP2 := Lib.hid (HZ.out.below b1); obtain ⟨⟨p0, p1, p2⟩, pf⟩ := HZ.out.below b1; have pf0 := pf 0; have pf1 := pf 1; have pf2 := pf 2))
                  all_goals
                    go_wp2_with fail
                    go_meet
                    first
                      | exact ⟨_, q', n', rfl, Lib.hid (PlanAt.new w4 A dx (.slice q' X.length n') 24), Lib.hid (IntsNew.below hn4 ((Below.refl _ _).alloc (Nat.le_refl _) _)), cA.size, Lib.hid (cA.alloc cA.size _)⟩
                      | exact arms_b q' n' hn4 HP2.out (by simp) cB
                case rest =>
                  obtain ⟨Cb, q', n', rfl, HP, HN, hCb, HB⟩ := hcut
                  have HGx := Lib.hid (HG.out.grab HB.out)
                  have zM : Hid (More (More (fun _ => False) wr w2) w2 wc M) := Lib.hid (Or.inl (Or.inr ⟨Nat.le_of_eq HMh.out, World.block_lt_of_cell? _ _ r1⟩))
                  replace r1 := cell_kept r1 HB.out
                  replace r2 := cell_kept r2 HB.out
                  replace r3 := cell_kept r3 HB.out
                  obtain ⟨⟨p0, p1, p2⟩, pf⟩ := HP.out
                  have zC : Hid (More (More (fun _ => False) wr w2) w2 wc Cb) := Lib.hid (Or.inr ⟨hCb, World.block_lt_of_cell? _ _ p0⟩)
                  have zN : Hid (∀ k, (Value.slice q' X.length n').ownBlock = some k → More (More (fun _ => False) wr w2) w2 wc k) := Lib.hid fun k hk => Or.inr (World.ownsRow.lt HN.out k hk)
                  have hpe : (planE A X != planE A X) = false := by simp
                  have HAX : Hid (∃ z, z = planE A X) := ⟨_, rfl⟩
                  clear r0 pf HP hCb
                  go_wp2_with fail
                  have p0d : wc.drew.cell? ⟨Cb, 0, none⟩ = some (.int .i64 A) := p0
                  have p1d : wc.drew.cell? ⟨Cb, 1, none⟩ = some (.bool dx) := p1
                  have p2d : wc.drew.cell? ⟨Cb, 2, none⟩ = some (.slice q' X.length n') := p2
                  have r1d : wc.drew.cell? ⟨M, 1, none⟩ = some (.int .i64 A) := r1
                  have r2d : wc.drew.cell? ⟨M, 2, none⟩ = some (.bool dx) := r2
                  have r3d : wc.drew.cell? ⟨M, 3, none⟩ = some (.slice q X.length cq) := r3
                  have HGd := Lib.hid (HGx.out.below (Below.refl _ _).drew)
                  have HNd := Lib.hid (HN.out.below (Below.refl _ _).drew)
                  clear p0 p1 p2 r1 r2 r3 HGx HN HB HG HXX
                  go_region_held3 (fun w' => w'.cell? ⟨Cb, 0, none⟩ = some (.int .i64 A) ∧ w'.cell? ⟨Cb, 1, none⟩ = some (.bool dx) ∧ w'.cell? ⟨Cb, 2, none⟩ = some (.slice q' X.length n') ∧ w'.cell? ⟨M, 1, none⟩ = some (.int .i64 A) ∧ w'.cell? ⟨M, 2, none⟩ = some (.bool dx) ∧ w'.cell? ⟨M, 3, none⟩ = some (.slice q X.length cq))
                    (first
                      | with_reducible exact ⟨p0d, p1d, p2d, r1d, r2d, r3d⟩
                      | with_reducible exact ⟨s0, s1, s2, s3, s4, s5⟩
                      | with_reducible exact ⟨t0, t1, t2, t3, t4, t5⟩
                      | with_reducible exact ⟨u0, u1, u2, u3, u4, u5⟩)
                    (first
                      | (go_at_call 26; refine (live_arm HGd.out A dx _ X (IntsNew.at HNd.out) (by have := HXl.out; omega)).mono ?_; rintro y w5 ⟨rfl, h5, o5⟩; have H5 := Lib.hid h5; have s0 := o5.cellZ p0d zC.out; have s1 := o5.cellZ p1d zC.out; have s2 := o5.cellZ p2d zC.out; have s3 := o5.cellZ r1d zM.out; have s4 := o5.cellZ r2d zM.out; have s5 := o5.cellZ r3d zM.out; have HN5 := Lib.hid (o5.newZ HNd.out zN.out); clear h5 o5)
                      | (go_at_call 34; refine (live_rarm H5.out A dx _ X (HXw.out.below H5.out.old) (by have := HXl.out; omega)).mono ?_; rintro y w6 ⟨rfl, h6, o6⟩; have H6 := Lib.hid h6; have t0 := o6.cellZ s0 zC.out; have t1 := o6.cellZ s1 zC.out; have t2 := o6.cellZ s2 zC.out; have t3 := o6.cellZ s3 zM.out; have t4 := o6.cellZ s4 zM.out; have t5 := o6.cellZ s5 zM.out; have HN6 := Lib.hid (o6.newZ HN5.out zN.out); clear h6 o6)
                      | (go_at_call 21; refine (same_any A dx _ X A dx _ X _ (IntsNew.at HN6.out) (HXw.out.below H6.out.old) (by have := HXl.out; omega) (by have := HXl.out; omega)).mono ?_; rw [sameB_self]; rintro y w7 ⟨rfl, b7⟩; have u0 := cell_kept t0 b7; have u1 := cell_kept t1 b7; have u2 := cell_kept t2 b7; have u3 := cell_kept t3 b7; have u4 := cell_kept t4 b7; have u5 := cell_kept t5 b7; have HN7 := Lib.hid (HN6.out.below b7); have H7 := Lib.hid (H6.out.below b7); clear b7))
                  obtain ⟨w8, hcl, hon⟩ := clear_new w2.heap.size _ _ _ HN7.out
                  have HF := Lib.hid (H7.out.inZ (fun k hk => by have g1 := HWr.out; have g2 := HB12.out.size; rcases hk with (hk | hk) | hk; exact hk.elim; omega; omega) (hon.weak fun k _ e => zN.out k e))
                  clear hon u0 u1 u3 u4 u5 HN7 H7 HN6 H6 HN5 H5 HNd HGd
                  go_wp2_with fail
                  go_meet
                  exact ⟨B, C, _, _, _, po, qo, _, _, _, rfl, rfl, rfl, rfl, HF.out.drop fun k e => e.elim⟩
              · skip
                obtain rfl : k3 = false := by rw [← Hk3.out]; rfl
                clear Hk3
                go_wp2_with fail
                refine (live_disarm HG.out).mono ?_
                rintro e w5 ⟨rfl, h5⟩
                have H5 := Lib.hid h5
                clear h5
                go_wp2_with fail
                refine (live_rdisarm H5.out).mono ?_
                rintro e w6 ⟨rfl, h6⟩
                go_wp2_with fail
                go_meet
                exact ⟨B, C, _, _, _, po, qo, _, _, _, rfl, rfl, rfl, rfl, h6.drop fun k e => e.elim⟩
              · skip
                obtain rfl : k3 = false := by rw [← Hk3.out]; rfl
                clear Hk3
                go_wp2_with fail
                refine (live_copy HG.out).mono ?_
                rintro e w5 ⟨B', rfl, b5, h5⟩
                have H5 := Lib.hid h5
                have HG5 := Lib.hid (HG.out.below b5)
                clear h5
                go_wp2_with fail
                refine (live_rcopy HG5.out).mono ?_
                rintro e w6 ⟨C', rfl, b6, h6⟩
                have hsw := HG.out.swap b5 H5.out b6 h6
                clear b5 b6 h6
                go_wp2_with fail
                go_meet
                exact ⟨B', C', _, _, _, _, _, _, _, _, rfl, rfl, rfl, rfl, hsw.drop fun k e => e.elim⟩
          case rest =>
            obtain ⟨B2, C2, R2, d2, K2, po2, qo2, Ro2, dO2, Ko2, rfl, rfl, rfl, rfl, HL2⟩ := hcut
            clear r0 r1 r2 r3 HG HXX HB12 HXl hy8 x1 x2 htb hbb HMh
            obtain ⟨t2, ht2⟩ : ∃ t2, decide (1 ≤ R2) = t2 := ⟨_, rfl⟩
            obtain ⟨t3, ht3⟩ : ∃ t3, decide (1 ≤ Ro2) = t3 := ⟨_, rfl⟩
            have HT2 := Lib.hid ht2
            have HT3 := Lib.hid ht3
            clear ht2 ht3
            have hb2 : (t2 == t2) = true := beq_self_eq_true _
            have hb3 : (t3 == t3) = true := beq_self_eq_true _
            go_wp2_with fail
            go_loopw [93] (fun vi wr => ∃ i2 : Nat, i2 ≤ 2 ∧ vi = .int .i64 i2 ∧ Hid (LiveE w.heap.size w wr (fun _ => False) B2 C2 R2 d2 K2 R2 d2 K2 po2 qo2 Ro2 dO2 Ko2)) (fun vi _ => 2 - (intOf vi).toNat)
            case atStart => exact ⟨0, Nat.zero_le _, rfl, HL2⟩
            case round =>
              clear HL2
              obtain ⟨i2, hi2, rfl, HL⟩ := hrel
              by_cases hlt : i2 < 2
              · skip
                go_wp2_with fail
                refine (live_plan HL.out).mono ?_
                rw [HT2.out]
                rintro e w4 ⟨q1, c1, rfl, hn1, b1⟩
                have a1 := (Below.refl w4.heap.size w4).alloc (Nat.le_refl _) (.cells #[.int .i64 (plA R2), .bool (plD R2 d2), .slice q1 (plK R2 K2).length c1] 24)
                obtain ⟨p0, p1, p2⟩ := planAt_new w4 (plA R2) (plD R2 d2) (.slice q1 (plK R2 K2).length c1) 24
                have cw := b1.trans (a1.mono b1.size)
                have HN := Lib.hid (hn1.below a1)
                have HLx := Lib.hid (HL.out.below cw)
                clear hn1 b1 a1
                obtain ⟨P1, hP1⟩ : ∃ P1, w4.heap.size = P1 := ⟨_, rfl⟩
                rw [hP1] at p0 p1 p2
                go_wp2_with fail
                generalize (w4.alloc (.cells #[.int .i64 (plA R2), .bool (plD R2 d2), .slice q1 (plK R2 K2).length c1] 24)) = w5 at *
                clear hP1
                refine (live_rplan HLx.out).mono ?_
                rw [HT2.out]
                rintro e w6 ⟨q2, c2, rfl, hn2, b1⟩
                have a1 := (Below.refl w6.heap.size w6).alloc (Nat.le_refl _) (.cells #[.int .i64 (plA R2), .bool (plD R2 d2), .slice q2 (plK R2 K2).length c2] 24)
                obtain ⟨z0, z1, z2⟩ := planAt_new w6 (plA R2) (plD R2 d2) (.slice q2 (plK R2 K2).length c2) 24
                have b2 := b1.trans (a1.mono b1.size)
                have HN2 := Lib.hid (hn2.below a1)
                replace p0 := cell_kept p0 b2
                replace p1 := cell_kept p1 b2
                replace p2 := cell_kept p2 b2
                have HNx := Lib.hid (HN.out.below b2)
                have cv := cw.trans (b2.mono cw.size)
                have HKl := Lib.hid (HL.out.len_live_plan)
                clear hn2 b1 b2 a1 cw HLx HN
                obtain ⟨P2, hP2⟩ : ∃ P2, w6.heap.size = P2 := ⟨_, rfl⟩
                rw [hP2] at z0 z1 z2
                go_wp2_with fail
                generalize (w6.alloc (.cells #[.int .i64 (plA R2), .bool (plD R2 d2), .slice q2 (plK R2 K2).length c2] 24)) = w7 at *
                clear hP2
                refine (same_any (plA R2) (plD R2 d2) _ (plK R2 K2) (plA R2) (plD R2 d2) _ (plK R2 K2) _ (IntsNew.at HNx.out) (IntsNew.at HN2.out) (by have := HKl.out; omega) (by have := HKl.out; omega)).mono ?_
                rw [sameB_self]
                rintro e w9 ⟨rfl, b1⟩
                replace p0 := cell_kept p0 b1
                replace p1 := cell_kept p1 b1
                replace p2 := cell_kept p2 b1
                replace z0 := cell_kept z0 b1
                replace z1 := cell_kept z1 b1
                replace z2 := cell_kept z2 b1
                have HN := Lib.hid (HNx.out.below b1)
                have cw := cv.trans (b1.mono cv.size)
                clear cv b1 HNx HN2 HKl
                have HLx := Lib.hid (HL.out.below cw)
                obtain ⟨w8, hcl, hon⟩ := clear_new wr.heap.size _ _ _ HN.out
                have cy := hon.below cw cw.size fun k hk => (World.ownsRow.lt HN.out k hk).1
                have HLy := Lib.hid (HL.out.below cy)
                clear HLx hon cw cy HL
                go_wp2_with fail
                go_roundw
                case rel => exact ⟨i2 + 1, by omega, by go_num, HLy⟩
                case measure => simp [intOf]; omega
              · obtain rfl : i2 = 2 := by omega
                clear hlt hi2
                go_wp2_with fail
                refine (live_oplan HL.out).mono ?_
                rw [HT3.out]
                rintro e w4 ⟨q1, c1, rfl, hn1, b1⟩
                have a1 := (Below.refl w4.heap.size w4).alloc (Nat.le_refl _) (.cells #[.int .i64 (plA Ro2), .bool (plD Ro2 dO2), .slice q1 (plK Ro2 Ko2).length c1] 24)
                obtain ⟨p0, p1, p2⟩ := planAt_new w4 (plA Ro2) (plD Ro2 dO2) (.slice q1 (plK Ro2 Ko2).length c1) 24
                have cw := b1.trans (a1.mono b1.size)
                have HN := Lib.hid (hn1.below a1)
                have HLx := Lib.hid (HL.out.below cw)
                clear hn1 b1 a1
                obtain ⟨P1, hP1⟩ : ∃ P1, w4.heap.size = P1 := ⟨_, rfl⟩
                rw [hP1] at p0 p1 p2
                go_wp2_with fail
                generalize (w4.alloc (.cells #[.int .i64 (plA Ro2), .bool (plD Ro2 dO2), .slice q1 (plK Ro2 Ko2).length c1] 24)) = w5 at *
                clear hP1
                refine (live_uplan HLx.out).mono ?_
                rw [HT3.out]
                rintro e w6 ⟨q2, c2, rfl, hn2, b1⟩
                have a1 := (Below.refl w6.heap.size w6).alloc (Nat.le_refl _) (.cells #[.int .i64 (plA Ro2), .bool (plD Ro2 dO2), .slice q2 (plK Ro2 Ko2).length c2] 24)
                obtain ⟨z0, z1, z2⟩ := planAt_new w6 (plA Ro2) (plD Ro2 dO2) (.slice q2 (plK Ro2 Ko2).length c2) 24
                have b2 := b1.trans (a1.mono b1.size)
                have HN2 := Lib.hid (hn2.below a1)
                replace p0 := cell_kept p0 b2
                replace p1 := cell_kept p1 b2
                replace p2 := cell_kept p2 b2
                have HNx := Lib.hid (HN.out.below b2)
                have cv := cw.trans (b2.mono cw.size)
                have HKl := Lib.hid (HL.out.len_live_oplan)
                clear hn2 b1 b2 a1 cw HLx HN
                obtain ⟨P2, hP2⟩ : ∃ P2, w6.heap.size = P2 := ⟨_, rfl⟩
                rw [hP2] at z0 z1 z2
                go_wp2_with fail
                generalize (w6.alloc (.cells #[.int .i64 (plA Ro2), .bool (plD Ro2 dO2), .slice q2 (plK Ro2 Ko2).length c2] 24)) = w7 at *
                clear hP2
                refine (same_any (plA Ro2) (plD Ro2 dO2) _ (plK Ro2 Ko2) (plA Ro2) (plD Ro2 dO2) _ (plK Ro2 Ko2) _ (IntsNew.at HNx.out) (IntsNew.at HN2.out) (by have := HKl.out; omega) (by have := HKl.out; omega)).mono ?_
                rw [sameB_self]
                rintro e w9 ⟨rfl, b1⟩
                replace p0 := cell_kept p0 b1
                replace p1 := cell_kept p1 b1
                replace p2 := cell_kept p2 b1
                replace z0 := cell_kept z0 b1
                replace z1 := cell_kept z1 b1
                replace z2 := cell_kept z2 b1
                have HN := Lib.hid (HNx.out.below b1)
                have cw := cv.trans (b1.mono cv.size)
                clear cv b1 HNx HN2 HKl
                have HLx := Lib.hid (HL.out.below cw)
                have hlt := HLt.out
                have hn := HN100.out
                clear cw HL p0 p1 p2 z0 z1 z2 HN
                go_wp2_with fail
                go_roundw
                case rel => exact ⟨i + 1, B2, C2, R2, d2, K2, po2, qo2, Ro2, dO2, Ko2, by omega, by go_num, rfl, rfl, rfl, rfl, HLx⟩
                case measure => simp [intOf]; omega
      · obtain rfl : i = n := by omega
        have c1 := HL.out.old
        clear hlt hi HL
        go_wp2_with fail
        refine (works_any m _ (HT.out.below c1) (HE.out.below c1) (cell_kept HM.out c1)).mono ?_
        rintro y w9 ⟨rfl, b9⟩
        have c2 := c1.trans (b9.mono c1.size)
        go_wp2_with fail
        go_ret
        exact ⟨rfl, c2⟩
  · have d1 : decide (100 < (n : Int)) = true := by rw [decide_eq_true_iff]; omega
    clear hn hel
    go_enter Tryd.func9, Tryd.ntmps9
    go_wp2_with fail
    refine (works_any m _ HT.out HE.out HM.out).mono ?_
    rintro y w9 ⟨rfl, b9⟩
    go_wp2_with fail
    go_ret
    exact ⟨rfl, b9⟩
end Go.Proofs.YtoceeegdbnigeaaDoor
