/-
  FaultReads: the walk.
  Conditions: the library's tables and variables lie in the world.
-/
import Derived.Test.YtoceeegdbnigeaaDoorWorks11
set_option linter.unusedVariables false
namespace Go.Proofs.YtoceeegdbnigeaaDoor
open Go Go.RowKit

theorem pL_len (s : ByteArray) : (pL s).length ≤ 34 := by
  by_cases h : goodP s
  · rw [(p_good h).2.2.1]
    have := h.2.2.2
    unfold kepL
    rw [List.length_map]
    exact this
  · rw [(p_bad h).2.2.1]; simp
theorem sameB_self (A : Int) (d : Bool) (L : List Int) : sameB A d L A d L = true := by unfold sameB; simp
set_option maxRecDepth 100000 in
set_option maxHeartbeats 4000000 in
theorem walkFaultReads (s : ByteArray) (m : Int) (w : World) (ht : Tab w) (he : Errs w) (hm : w.cell? ⟨0, 0, none⟩ = some (.int .i64 m)) :
    Calls Tryd.prog 4 #[.string s] w fun e w' => e = .returned (.bool true) ∧ Below w.heap.size w w' := by
  have HT := Lib.hid ht
  have HE := Lib.hid he
  have HM := Lib.hid hm
  clear ht he hm
  by_cases hs : 500 < s.size
  · have d1 : decide ((500 : Int) < (s.size : Int)) = true := by rw [decide_eq_true_iff]; omega
    clear hs
    go_enter Tryd.func4, Tryd.ntmps4
    go_wp2_with fail
    refine (works_any m _ HT.out HE.out HM.out).mono ?_
    rintro e w1 ⟨rfl, b1⟩
    go_wp2_with fail
    go_ret
    exact ⟨rfl, b1⟩
  · have d1 : decide ((500 : Int) < (s.size : Int)) = false := by rw [decide_eq_false_iff_not]; omega
    have HS : Hid (s.size ≤ 1000000) := by show s.size ≤ 1000000; omega
    clear hs
    go_enter Tryd.func4, Tryd.ntmps4
    go_wp2_with fail
    refine (parse_any s HS.out m _ HT.out HE.out HM.out).mono ?_
    rintro e w1 ⟨⟨v, rfl, hn⟩, b1⟩
    obtain ⟨p1, n1, rfl⟩ := ownsRow_slice hn
    have c2 := b1.alloc b1.size (.cells #[.int .i64 (pA s), .bool (pD s), .slice p1 (pL s).length n1] 24)
    have a2 := (Below.refl w1.heap.size w1).alloc (Nat.le_refl _) (.cells #[.int .i64 (pA s), .bool (pD s), .slice p1 (pL s).length n1] 24)
    have HP := Lib.hid (PlanAt.new w1 (pA s) (pD s) (.slice p1 (pL s).length n1) 24)
    have HN := Lib.hid (IntsNew.below hn a2)
    clear b1 a2 hn
    go_wp2_with fail
    refine (refParse_any s HS.out _).mono ?_
    rintro e w2 ⟨⟨v, rfl, hn⟩, b1⟩
    obtain ⟨p2, n2, rfl⟩ := ownsRow_slice hn
    have HP2 := Lib.hid (HP.out.below b1)
    have HN2 := Lib.hid (HN.out.below b1)
    have c3 := c2.trans (b1.mono c2.size)
    have c4 := c3.alloc c3.size (.cells #[.int .i64 (pA s), .bool (pD s), .slice p2 (pL s).length n2] 24)
    have a4 := (Below.refl w2.heap.size w2).alloc (Nat.le_refl _) (.cells #[.int .i64 (pA s), .bool (pD s), .slice p2 (pL s).length n2] 24)
    obtain ⟨⟨q0, q1, q2⟩, qf⟩ := PlanAt.new w2 (pA s) (pD s) (.slice p2 (pL s).length n2) 24
    obtain ⟨⟨p0, p1', p2'⟩, pf⟩ := HP2.out.below a4
    have HN3 := Lib.hid (HN2.out.below a4)
    have HN4 := Lib.hid (IntsNew.below hn a4)
    have HL := Lib.hid (pL_len s)
    clear b1 hn a4 c2 c3 HP HN HP2 HN2 pf qf
    have hee : (pE s == pE s) = true := beq_self_eq_true _
    go_wp2_with fail
    refine (same_any (pA s) (pD s) _ (pL s) (pA s) (pD s) _ (pL s) _ (IntsNew.at HN3.out) (IntsNew.at HN4.out) (by have := HL.out; omega) (by have := HL.out; omega)).mono ?_
    rw [sameB_self]
    rintro e w4 ⟨rfl, b1⟩
    have c5 := c4.trans (b1.mono c4.size)
    clear b1 c4 q0 q1 q2 p0 p1' p2'
    go_wp2_with fail
    refine (works_any m _ (HT.out.below c5) (HE.out.below c5) (cell_kept HM.out c5)).mono ?_
    rintro e w6 ⟨rfl, b1⟩
    have c6 := c5.trans (b1.mono c5.size)
    clear b1 c5
    go_wp2_with fail
    go_ret
    exact ⟨rfl, c6⟩
end Go.Proofs.YtoceeegdbnigeaaDoor
