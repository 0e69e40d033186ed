/-
  Plans: when two plans are equal, by the statements' own function.
  Conditions: none.
-/
import Derived.Test.YtoceeegdbnigeaaDoorKp11
set_option linter.unusedVariables false
namespace Go.Proofs.YtoceeegdbnigeaaDoor
open Go Go.RowKit

theorem equal_any (v v' : Value) (L L' : List Int) (w : World) (hv : IntsAt w v L) (hv' : IntsAt w v' L') (hl : L.length ≤ 1099511627776) (hl' : L'.length ≤ 1099511627776) :
    Calls Tryd.prog 49 #[v, v'] w fun e w' => e = .returned (.bool (decide (L = L'))) ∧ Below w.heap.size w w' := by
  obtain ⟨p, c, rfl, hc, hp⟩ := hv
  obtain ⟨p', c', rfl, hc', hp'⟩ := hv'
  by_cases hlen : L.length = L'.length
  · rcases Nat.eq_zero_or_pos L.length with h0 | h0
    · have e1 : L = [] := List.eq_nil_of_length_eq_zero h0
      have e2 : L' = [] := List.eq_nil_of_length_eq_zero (by omega)
      subst e1 e2
      refine (Tryd.slices_Equal_int_empty p p' c 0 c' w (by decide)).mono ?_
      rintro e w' ⟨rfl, rfl⟩
      exact ⟨rfl, Below.refl _ _⟩
    · obtain ⟨b, o, rfl, h1⟩ := hp h0
      obtain ⟨b', o', rfl, h2⟩ := hp' (by omega)
      refine (Tryd.slices_Equal_int b o L.length c b' o' L'.length c' L L' w (Nat.le_refl _) (Nat.le_refl _) (by omega) (by omega) h1 h2).mono ?_
      rintro e w' ⟨rfl, q, rfl⟩
      refine ⟨?_, ⟨rfl, rfl, rfl, Nat.le_refl _, fun _ _ => rfl⟩⟩
      rw [List.take_length, List.take_length]
      congr 2
      by_cases h : L = L'
      · rw [h, decide_eq_true rfl]; exact beq_self_eq_true _
      · rw [decide_eq_false h]; exact beq_false_of_ne h
  · refine (Tryd.slices_Equal_int_lens p p' L.length c L'.length c' w hlen).mono ?_
    rintro e w' ⟨rfl, rfl⟩
    refine ⟨?_, Below.refl _ _⟩
    rw [decide_eq_false fun h => hlen (by rw [h])]
set_option maxHeartbeats 4000000 in
theorem same2_any (A : Int) (d : Bool) (v : Value) (L : List Int) (A' : Int) (d' : Bool) (v' : Value) (L' : List Int) (w : World) (hv : IntsAt w v L) (hv' : IntsAt w v' L') (hl : L.length ≤ 1099511627776) (hl2 : L'.length ≤ 1099511627776) :
    Calls Tryd.prog 28 #[planV A d v, planV A' d' v'] w fun e w' => e = .returned (.bool (sameB A d L A' d' L')) ∧ Below w.heap.size w w' := by
  have c1 : Below w.heap.size w (w.alloc (.cells #[.int .i64 A, .bool d, v] 24)) := (Below.refl _ _).alloc (Nat.le_refl _) _
  have c2 : Below w.heap.size w ((w.alloc (.cells #[.int .i64 A, .bool d, v] 24)).alloc (.cells #[.int .i64 A', .bool d', v'] 24)) := c1.alloc c1.size _
  have a2 : Below (w.alloc (.cells #[.int .i64 A, .bool d, v] 24)).heap.size (w.alloc (.cells #[.int .i64 A, .bool d, v] 24)) ((w.alloc (.cells #[.int .i64 A, .bool d, v] 24)).alloc (.cells #[.int .i64 A', .bool d', v'] 24)) := (Below.refl _ _).alloc (Nat.le_refl _) _
  have hs1 : (w.alloc (.cells #[.int .i64 A, .bool d, v] 24)).heap.size = w.heap.size + 1 := by simp
  obtain ⟨⟨p0, p1, p2⟩, pf⟩ := (PlanAt.new w A d v 24).below a2
  have hq := PlanAt.new (w.alloc (.cells #[.int .i64 A, .bool d, v] 24)) A' d' v' 24
  rw [hs1] at hq
  obtain ⟨⟨q0, q1, q2⟩, qf⟩ := hq
  have HV := Lib.hid (hv.below c2)
  have HV' := Lib.hid (hv'.below c2)
  obtain ⟨p, c, rfl, _, _⟩ := hv
  obtain ⟨p', c', rfl, _, _⟩ := hv'
  clear pf qf a2 c1 hs1
  by_cases hA : A = A'
  · have dA : (A == A') = true := by rw [beq_iff_eq]; exact hA
    by_cases hd : d = d'
    · subst hd
      have HL1 := Lib.hid hl
      have HL2 := Lib.hid hl2
      have HS : Hid (sameB A d L A' d L' = decide (L = L')) := by show _ = _; unfold sameB; rw [decide_eq_true hA]; simp
      clear hA hl hl2
      go_enter Tryd.func28, Tryd.ntmps28
      go_wp2_with fail
      refine (equal_any _ _ L L' _ HV.out HV'.out HL1.out HL2.out).mono ?_
      rintro e w3 ⟨rfl, b1⟩
      have c3 := c2.trans (b1.mono c2.size)
      clear b1 c2 p0 p1 p2 q0 q1 q2
      go_wp2_with fail
      go_ret
      exact ⟨by rw [HS.out]; rfl, c3⟩
    · cases d
      · cases d'
        · exact absurd rfl hd
        · have HS : Hid (sameB A false L A' true L' = false) := sameB_d hd
          clear hA hd
          clear hl hl2
          go_enter Tryd.func28, Tryd.ntmps28
          go_wp2_with fail
          go_ret
          exact ⟨by rw [HS.out]; rfl, c2⟩
      · cases d'
        · have HS : Hid (sameB A true L A' false L' = false) := sameB_d hd
          clear hA hd
          clear hl hl2
          go_enter Tryd.func28, Tryd.ntmps28
          go_wp2_with fail
          go_ret
          exact ⟨by rw [HS.out]; rfl, c2⟩
        · exact absurd rfl hd
  · have dA : (A == A') = false := by rw [beq_eq_false_iff_ne]; exact hA
    have HS : Hid (sameB A d L A' d' L' = false) := sameB_A hA
    clear hA
    clear hl hl2
    go_enter Tryd.func28, Tryd.ntmps28
    go_wp2_with fail
    go_ret
    exact ⟨by rw [HS.out]; rfl, c2⟩
end Go.Proofs.YtoceeegdbnigeaaDoor
