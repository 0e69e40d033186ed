/-
  Plans: what slots keep; when two plans are the same.
  Conditions: none.
-/
import Derived.Test.YtoceeegdbnigeaaDoorInts
import Derived.Test.YtoceeegdbnigeaaDoorPl11
set_option linter.unusedVariables false
namespace Go.Proofs.YtoceeegdbnigeaaDoor
open Go Go.RowKit

theorem fkeep_bad (A : Int) (d : Bool) (v : Value) (L : List Int) (slot u : Int) (w : World) (hv : IntsAt w v L) (hl : L.length ≤ 1099511627776) (hp : planOK A L = false) :
    Calls Tryd.prog 17 #[planV A d v, .int .i64 slot, .int .i64 u] w fun e w' => e = .returned (.tuple #[.int .i64 0, .int .i64 2]) ∧ Below w.heap.size w w' := by
  have HE : Hid (planE A L = 2) := by show _ = _; unfold planE; rw [if_neg (by rw [hp]; decide)]
  have c1 : Below w.heap.size w (w.alloc (.cells #[.int .i64 A, .bool d, v] 24)) := (Below.refl _ _).alloc (Nat.le_refl _) _
  obtain ⟨q0, q1, q2⟩ := planAt_new w A d v 24
  have HV := Lib.hid (hv.below c1)
  have HL := Lib.hid hl
  clear hv hl hp
  go_enter Tryd.func17, Tryd.ntmps17
  go_wp2_with fail
  refine (fcheck_any A d _ L _ HV.out HL.out).mono ?_
  rw [HE.out]
  rintro e w1 ⟨rfl, b1⟩
  have c2 := c1.trans (b1.mono c1.size)
  clear q0 q1 q2 b1 c1
  go_wp2_with fail
  go_ret2
  exact ⟨rfl, c2⟩
theorem rkeep_bad (A : Int) (d : Bool) (v : Value) (L : List Int) (slot u : Int) (w : World) (hv : IntsAt w v L) (hl : L.length ≤ 1099511627776) (hp : planOK A L = false) :
    Calls Tryd.prog 18 #[planV A d v, .int .i64 slot, .int .i64 u] w fun e w' => e = .returned (.tuple #[.int .i64 0, .int .i64 2]) ∧ Below w.heap.size w w' := by
  have HE : Hid (planE A L = 2) := by show _ = _; unfold planE; rw [if_neg (by rw [hp]; decide)]
  have c1 : Below w.heap.size w (w.alloc (.cells #[.int .i64 A, .bool d, v] 24)) := (Below.refl _ _).alloc (Nat.le_refl _) _
  obtain ⟨q0, q1, q2⟩ := planAt_new w A d v 24
  have HV := Lib.hid (hv.below c1)
  have HL := Lib.hid hl
  clear hv hl hp
  go_enter Tryd.func18, Tryd.ntmps18
  go_wp2_with fail
  refine (rcheck_any A d _ L _ HV.out HL.out).mono ?_
  rw [HE.out]
  rintro e w1 ⟨rfl, b1⟩
  have c2 := c1.trans (b1.mono c1.size)
  clear q0 q1 q2 b1 c1
  go_wp2_with fail
  go_ret2
  exact ⟨rfl, c2⟩
set_option maxHeartbeats 2000000 in
theorem fkeep_good (A : Int) (d : Bool) (v : Value) (L : List Int) (slot u r er : Int) (w : World) (hv : IntsAt w v L) (hp : planOK A L = true)
    (h : (u < 0 ∧ r = 0 ∧ er = 2) ∨ (0 ≤ u ∧ slot < 0 ∧ r = 0 ∧ er = 3) ∨ (0 ≤ u ∧ 0 ≤ slot ∧ r = min u (L.getD (slot.toNat % L.length) 0) ∧ er = 0)) :
    Calls Tryd.prog 17 #[planV A d v, .int .i64 slot, .int .i64 u] w fun e w' => e = .returned (.tuple #[.int .i64 r, .int .i64 er]) ∧ Below w.heap.size w w' := by
  have HE : Hid (planE A L = 0) := by show _ = _; unfold planE; rw [if_pos hp]
  have hpl := (planOK_parts hp).2.2
  have hl1 := hpl.1
  have hl2 := hpl.2.1
  have c1 : Below w.heap.size w (w.alloc (.cells #[.int .i64 A, .bool d, v] 24)) := (Below.refl _ _).alloc (Nat.le_refl _) _
  obtain ⟨q0, q1, q2⟩ := planAt_new w A d v 24
  have HV := Lib.hid (hv.below c1)
  obtain ⟨p, c, rfl, hc, _⟩ := hv
  clear hp hpl
  rcases h with ⟨h1, rfl, rfl⟩ | ⟨h1, h2, rfl, rfl⟩ | ⟨h1, h2, hr, rfl⟩
  · have d1 : decide (u < 0) = true := by rw [decide_eq_true_iff]; exact h1
    clear h1
    go_enter Tryd.func17, Tryd.ntmps17
    go_wp2_with fail
    refine (fcheck_any A d _ L _ HV.out (by omega)).mono ?_
    rw [HE.out]
    rintro e w1 ⟨rfl, b1⟩
    have c2 := c1.trans (b1.mono c1.size)
    clear q0 q1 q2 b1 c1
    go_wp2_with fail
    go_ret2
    exact ⟨rfl, c2⟩
  · have d1 : decide (u < 0) = false := by rw [decide_eq_false_iff_not]; omega
    have d2 : decide (slot < 0) = true := by rw [decide_eq_true_iff]; exact h2
    clear h1 h2
    go_enter Tryd.func17, Tryd.ntmps17
    go_wp2_with fail
    refine (fcheck_any A d _ L _ HV.out (by omega)).mono ?_
    rw [HE.out]
    rintro e w1 ⟨rfl, b1⟩
    have c2 := c1.trans (b1.mono c1.size)
    clear q0 q1 q2 b1 c1
    go_wp2_with fail
    go_ret2
    exact ⟨rfl, c2⟩
  · have d1 : decide (u < 0) = false := by rw [decide_eq_false_iff_not]; omega
    have d2 : decide (slot < 0) = false := by rw [decide_eq_false_iff_not]; omega
    obtain ⟨k, rfl⟩ : ∃ k : Nat, slot = (k : Int) := ⟨slot.toNat, by omega⟩
    rw [Int.toNat_natCast] at hr
    obtain ⟨j, hj⟩ : ∃ j, k % L.length = j := ⟨_, rfl⟩
    have hjl : j < L.length := by rw [← hj]; exact Nat.mod_lt _ (by omega)
    have w4 : (k : Int).tmod (L.length : Int) = (j : Int) := by rw [Int.tmod_eq_emod_of_nonneg (by omega), ← hj]; rfl
    have w5 : (k : Int) % (L.length : Int) = (j : Int) := by rw [← hj]; rfl
    have w6 : IntKind.i64.wrap (j : Int) = (j : Int) := IntWalk.i64_in _ (by omega)
    have hne : ((L.length : Int) == 0) = false := by rw [beq_eq_false_iff_ne]; omega
    have hne2 : ¬ ((L.length : Int) = 0) := by omega
    rw [hj] at hr
    obtain ⟨x, hx⟩ : ∃ x, L.getD j 0 = x := ⟨_, rfl⟩
    rw [hx] at hr
    have HR := Lib.hid hr
    have HX := Lib.hid hx
    clear h1 h2 hr hj hx
    go_enter Tryd.func17, Tryd.ntmps17
    go_wp2_with fail
    refine (fcheck_any A d _ L _ HV.out (by omega)).mono ?_
    rw [HE.out]
    rintro e w1 ⟨rfl, b1⟩
    have c2 := c1.trans (b1.mono c1.size)
    have q2 := cell_kept q2 b1
    have hv2 := HV.out.below b1
    obtain ⟨p', c', he, _, hcell⟩ := hv2
    injection he with e1 _ e2
    subst e1 e2
    obtain ⟨b, o, rfl, hci⟩ := hcell (by omega)
    have hcx := hci j hjl
    rw [HX.out] at hcx
    clear b1 c1 hcell hci q0 q1 HV
    go_wp2_with fail
    go_region
    go_wp2_with fail
    go_ret2
    exact ⟨by rw [HR.out]; rfl, c2.drew⟩
set_option maxHeartbeats 2000000 in
theorem rkeep_good (A : Int) (d : Bool) (v : Value) (L : List Int) (slot u r er : Int) (w : World) (hv : IntsAt w v L) (hp : planOK A L = true)
    (h : (u < 0 ∧ r = 0 ∧ er = 2) ∨ (0 ≤ u ∧ slot < 0 ∧ r = 0 ∧ er = 3) ∨ (0 ≤ u ∧ 0 ≤ slot ∧ r = min u (L.getD (slot.toNat % L.length) 0) ∧ er = 0)) :
    Calls Tryd.prog 18 #[planV A d v, .int .i64 slot, .int .i64 u] w fun e w' => e = .returned (.tuple #[.int .i64 r, .int .i64 er]) ∧ Below w.heap.size w w' := by
  have HE : Hid (planE A L = 0) := by show _ = _; unfold planE; rw [if_pos hp]
  have hpl := (planOK_parts hp).2.2
  have hl1 := hpl.1
  have hl2 := hpl.2.1
  have c1 : Below w.heap.size w (w.alloc (.cells #[.int .i64 A, .bool d, v] 24)) := (Below.refl _ _).alloc (Nat.le_refl _) _
  obtain ⟨q0, q1, q2⟩ := planAt_new w A d v 24
  have HV := Lib.hid (hv.below c1)
  obtain ⟨p, c, rfl, hc, _⟩ := hv
  clear hp hpl
  rcases h with ⟨h1, rfl, rfl⟩ | ⟨h1, h2, rfl, rfl⟩ | ⟨h1, h2, hr, rfl⟩
  · have d1 : decide (u < 0) = true := by rw [decide_eq_true_iff]; exact h1
    clear h1
    go_enter Tryd.func18, Tryd.ntmps18
    go_wp2_with fail
    refine (rcheck_any A d _ L _ HV.out (by omega)).mono ?_
    rw [HE.out]
    rintro e w1 ⟨rfl, b1⟩
    have c2 := c1.trans (b1.mono c1.size)
    clear q0 q1 q2 b1 c1
    go_wp2_with fail
    go_ret2
    exact ⟨rfl, c2⟩
  · have d1 : decide (u < 0) = false := by rw [decide_eq_false_iff_not]; omega
    have d2 : decide (slot < 0) = true := by rw [decide_eq_true_iff]; exact h2
    clear h1 h2
    go_enter Tryd.func18, Tryd.ntmps18
    go_wp2_with fail
    refine (rcheck_any A d _ L _ HV.out (by omega)).mono ?_
    rw [HE.out]
    rintro e w1 ⟨rfl, b1⟩
    have c2 := c1.trans (b1.mono c1.size)
    clear q0 q1 q2 b1 c1
    go_wp2_with fail
    go_ret2
    exact ⟨rfl, c2⟩
  · have d1 : decide (u < 0) = false := by rw [decide_eq_false_iff_not]; omega
    have d2 : decide (slot < 0) = false := by rw [decide_eq_false_iff_not]; omega
    obtain ⟨k, rfl⟩ : ∃ k : Nat, slot = (k : Int) := ⟨slot.toNat, by omega⟩
    rw [Int.toNat_natCast] at hr
    obtain ⟨j, hj⟩ : ∃ j, k % L.length = j := ⟨_, rfl⟩
    have hjl : j < L.length := by rw [← hj]; exact Nat.mod_lt _ (by omega)
    have w4 : (k : Int).tmod (L.length : Int) = (j : Int) := by rw [Int.tmod_eq_emod_of_nonneg (by omega), ← hj]; rfl
    have w5 : (k : Int) % (L.length : Int) = (j : Int) := by rw [← hj]; rfl
    have w6 : IntKind.i64.wrap (j : Int) = (j : Int) := IntWalk.i64_in _ (by omega)
    have hne : ((L.length : Int) == 0) = false := by rw [beq_eq_false_iff_ne]; omega
    have hne2 : ¬ ((L.length : Int) = 0) := by omega
    rw [hj] at hr
    obtain ⟨x, hx⟩ : ∃ x, L.getD j 0 = x := ⟨_, rfl⟩
    rw [hx] at hr
    have HR := Lib.hid hr
    have HX := Lib.hid hx
    clear h1 h2 hr hj hx
    go_enter Tryd.func18, Tryd.ntmps18
    go_wp2_with fail
    refine (rcheck_any A d _ L _ HV.out (by omega)).mono ?_
    rw [HE.out]
    rintro e w1 ⟨rfl, b1⟩
    have c2 := c1.trans (b1.mono c1.size)
    have q2 := cell_kept q2 b1
    have hv2 := HV.out.below b1
    obtain ⟨p', c', he, _, hcell⟩ := hv2
    injection he with e1 _ e2
    subst e1 e2
    obtain ⟨b, o, rfl, hci⟩ := hcell (by omega)
    have hcx := hci j hjl
    rw [HX.out] at hcx
    clear b1 c1 hcell hci q0 q1 HV
    go_wp2_with fail
    go_region
    go_wp2_with fail
    go_ret2
    exact ⟨by rw [HR.out]; rfl, c2.drew⟩
/-- Whether two plans are the same. -/
def sameB (A : Int) (d : Bool) (L : List Int) (A' : Int) (d' : Bool) (L' : List Int) : Bool := decide (A = A') && (d == d') && decide (L = L')
theorem sameB_A {A : Int} {d : Bool} {L : List Int} {A' : Int} {d' : Bool} {L' : List Int} (h : ¬ A = A') : sameB A d L A' d' L' = false := by unfold sameB; rw [decide_eq_false h]; rfl
theorem sameB_d {A : Int} {d : Bool} {L : List Int} {A' : Int} {d' : Bool} {L' : List Int} (h : ¬ d = d') : sameB A d L A' d' L' = false := by unfold sameB; rw [beq_eq_false_iff_ne.2 h, Bool.and_false]; rfl
theorem sameB_L {A : Int} {d : Bool} {L : List Int} {A' : Int} {d' : Bool} {L' : List Int} (h : ¬ L = L') : sameB A d L A' d' L' = false := by unfold sameB; rw [decide_eq_false h, Bool.and_false]
theorem sameB_yes {A : Int} {d : Bool} {L : List Int} {A' : Int} {d' : Bool} {L' : List Int} (h1 : A = A') (h2 : d = d') (h3 : L = L') : sameB A d L A' d' L' = true := by subst h1 h2 h3; unfold sameB; simp
theorem list_getD {L L' : List Int} (hl : L.length = L'.length) (h : ∀ j, j < L.length → L.getD j 0 = L'.getD j 0) : L = L' := by
  refine List.ext_getElem hl fun j h1 h2 => ?_
  have := h j h1
  rw [List.getD, List.getD, List.getElem?_eq_getElem h1, List.getElem?_eq_getElem h2] at this
  exact this
set_option maxHeartbeats 4000000 in
theorem same_any (A : Int) (d : Bool) (v : Value) (L : List Int) (A' : Int) (d' : Bool) (v' : Value) (L' : List Int) (w : World) (hv : IntsAt w v L) (hv' : IntsAt w v' L') (hl : L.length ≤ 1099511627776) (hl2 : L'.length ≤ 1099511627776) :
    Calls Tryd.prog 21 #[planV A d v, planV A' d' v'] w fun e w' => e = .returned (.bool (sameB A d L A' d' L')) ∧ Below w.heap.size w w' := by
  have c1 : Below w.heap.size w (w.alloc (.cells #[.int .i64 A, .bool d, v] 24)) := (Below.refl _ _).alloc (Nat.le_refl _) _
  have c2 : Below w.heap.size w ((w.alloc (.cells #[.int .i64 A, .bool d, v] 24)).alloc (.cells #[.int .i64 A', .bool d', v'] 24)) := c1.alloc c1.size _
  have a2 : Below (w.alloc (.cells #[.int .i64 A, .bool d, v] 24)).heap.size (w.alloc (.cells #[.int .i64 A, .bool d, v] 24)) ((w.alloc (.cells #[.int .i64 A, .bool d, v] 24)).alloc (.cells #[.int .i64 A', .bool d', v'] 24)) := (Below.refl _ _).alloc (Nat.le_refl _) _
  have hs1 : (w.alloc (.cells #[.int .i64 A, .bool d, v] 24)).heap.size = w.heap.size + 1 := by simp
  obtain ⟨⟨p0, p1, p2⟩, pf⟩ := (PlanAt.new w A d v 24).below a2
  have hq := PlanAt.new (w.alloc (.cells #[.int .i64 A, .bool d, v] 24)) A' d' v' 24
  rw [hs1] at hq
  obtain ⟨⟨q0, q1, q2⟩, qf⟩ := hq
  have HV := Lib.hid (hv.below c2)
  have HV' := Lib.hid (hv'.below c2)
  obtain ⟨p, c, rfl, _, _⟩ := hv
  obtain ⟨p', c', rfl, _, _⟩ := hv'
  clear pf qf a2 c1
  by_cases hA : A = A'
  · have dA : (A != A') = false := by rw [bne_eq_false_iff_eq]; exact hA
    by_cases hd : d = d'
    · subst hd
      by_cases hL : L.length = L'.length
      · have dL : ((L.length : Int) != (L'.length : Int)) = false := by rw [bne_eq_false_iff_eq, hL]
        have HL := Lib.hid hL
        have HA := Lib.hid hA
        have P2 := Lib.hid p2
        have Q2 := Lib.hid q2
        clear hA hL
        go_enter Tryd.func21, Tryd.ntmps21
        go_wp2_with fail
        generalize ((w.alloc (.cells #[.int .i64 A, .bool d, .slice p L.length c] 24)).alloc (.cells #[.int .i64 A', .bool d, .slice p' L'.length c'] 24)) = w0 at *
        clear p0 p1 q0 q1 p2 q2 dA dL
        go_loopw [5] (fun vi wr => ∃ i : Nat, i ≤ L.length ∧ vi = .int .i64 i ∧ Hid (∀ j, j < i → L.getD j 0 = L'.getD j 0) ∧ Below w0.heap.size w0 wr) (fun vi _ => L.length - (intOf vi).toNat)
        case atStart => exact ⟨0, Nat.zero_le _, rfl, fun j hj => absurd hj (Nat.not_lt_zero _), Below.refl _ _⟩
        case round =>
          obtain ⟨i, hi, rfl, hall, c3⟩ := hrel
          have p2 := cell_kept P2.out c3
          have q2 := cell_kept Q2.out c3
          have cw := c2.trans (c3.mono c2.size)
          by_cases hlt : i < L.length
          · have hlt' : i < L'.length := by rw [← HL.out]; exact hlt
            have hv1 := HV.out.below c3
            have hv2 := HV'.out.below c3
            obtain ⟨_, _, he, _, h1⟩ := hv1
            injection he with e1 _ e2
            subst e1 e2
            obtain ⟨b1, o1, rfl, g1⟩ := h1 (by omega)
            obtain ⟨_, _, he, _, h2⟩ := hv2
            injection he with e1 _ e2
            subst e1 e2
            obtain ⟨b2, o2, rfl, g2⟩ := h2 (by omega)
            have x1 := g1 i hlt
            have x2 := g2 i hlt'
            obtain ⟨x, hx⟩ : ∃ x, L.getD i 0 = x := ⟨_, rfl⟩
            obtain ⟨y, hy⟩ : ∃ y, L'.getD i 0 = y := ⟨_, rfl⟩
            rw [hx] at x1
            rw [hy] at x2
            have HX := Lib.hid hx
            have HY := Lib.hid hy
            clear g1 g2 hx hy
            by_cases hxy : x = y
            · have dx : (x != y) = false := by rw [bne_eq_false_iff_eq]; exact hxy
              have HXY := Lib.hid hxy
              clear hxy
              go_wp2_with fail
              go_region
              go_wp2_with fail
              go_roundw
              case rel =>
                refine ⟨i + 1, by omega, by go_num, fun j hj => ?_, c3.drew⟩
                rcases Nat.lt_or_ge j i with h | h
                · exact hall.out j h
                · obtain rfl : j = i := by omega
                  rw [HX.out, HY.out, HXY.out]
              case measure => simp [intOf]; omega
            · have dx : (x != y) = true := by rw [bne_iff_ne]; exact hxy
              have HS : Hid (sameB A d L A' d L' = false) := sameB_L fun h => hxy (by rw [← HX.out, ← HY.out, h])
              clear hxy
              go_wp2_with fail
              go_region
              go_wp2_with fail
              go_ret
              exact ⟨by rw [HS.out]; rfl, cw.drew⟩
          · obtain rfl : i = L.length := by omega
            have HS : Hid (sameB A d L A' d L' = true) := sameB_yes HA.out rfl (list_getD HL.out hall.out)
            clear hlt hi
            go_wp2_with fail
            go_ret
            exact ⟨by rw [HS.out]; rfl, cw⟩
      · have dL : ((L.length : Int) != (L'.length : Int)) = true := by rw [bne_iff_ne]; omega
        have HS : Hid (sameB A d L A' d L' = false) := sameB_L fun h => hL (by rw [h])
        clear hA hL
        clear hl hl2
        go_enter Tryd.func21, Tryd.ntmps21
        go_wp2_with fail
        go_ret
        exact ⟨by rw [HS.out]; rfl, c2⟩
    · cases d
      · cases d'
        · exact absurd rfl hd
        · have HS : Hid (sameB A false L A' true L' = false) := sameB_d hd
          clear hA hd
          clear hl hl2
          go_enter Tryd.func21, Tryd.ntmps21
          go_wp2_with fail
          go_ret
          exact ⟨by rw [HS.out]; rfl, c2⟩
      · cases d'
        · have HS : Hid (sameB A true L A' false L' = false) := sameB_d hd
          clear hA hd
          clear hl hl2
          go_enter Tryd.func21, Tryd.ntmps21
          go_wp2_with fail
          go_ret
          exact ⟨by rw [HS.out]; rfl, c2⟩
        · exact absurd rfl hd
  · have dA : (A != A') = true := by rw [bne_iff_ne]; exact hA
    have HS : Hid (sameB A d L A' d' L' = false) := sameB_A hA
    clear hA
    clear hl hl2
    go_enter Tryd.func21, Tryd.ntmps21
    go_wp2_with fail
    go_ret
    exact ⟨by rw [HS.out]; rfl, c2⟩
end Go.Proofs.YtoceeegdbnigeaaDoor
