/-
  What codec.ParseDigits computes.
  Conditions: at most 2^45 bytes; the library's table lies in the world.
-/
import Derived.Test.YtllgnogiicdhfaaDoorDigits
import Derived.Test.YtllgnogiicdhfaaDoorDig01
import Derived.WalkLawsBesides
import Derived.WalkSpells
import Derived.Deep.QuietTactic
import Derived.BigQuiet
import Derived.Outline
import Derived.Lib.Hide
import Derived.Lib.AtoiErrMem
set_option linter.unusedVariables false
namespace Go.Proofs.YtllgnogiicdhfaaDoor
open Go Go.RowKit

theorem most_any (w : World) (htab : Tab w) :
    Calls Tryd.prog 40 #[.int .u64 18446744073709551615] w fun e w' => e = .returned (.string ⟨mostL.toArray⟩) ∧ Below w.heap.size w w' := by
  have h := digits_any 18446744073709551615 (by decide) w htab
  rw [most_dec] at h
  exact h

theorem parseUint_ok (s : ByteArray) (l : List UInt8) (hl : s.data.toList = l) (hs : s.size ≤ 35184372088832) (h1 : allDig l = true) (h2 : lead l = false) (h3 : dval l < M64) (w : World) :
    Calls Tryd.prog 51 #[.string s, .int .i64 10, .int .i64 64] w fun e w' => e = .returned (.tuple #[.int .u64 (dval l : Int), .nilIface]) ∧ Below w.heap.size w w' := by
  refine (Tryd.strconv_ParseUint_10_at64_ok s (by omega) (dval l) (by rw [hl]; exact parse_ok h1 h2 h3) w).mono ?_
  rintro e w' ⟨rfl, hw⟩
  refine ⟨rfl, ?_⟩
  rcases hw with rfl | rfl
  · exact Below.refl _ _
  · exact Lib.bytesWorld_below _ _ _

set_option maxHeartbeats 2000000 in
theorem parseDigits_any (s : ByteArray) (w : World) (hl : s.size ≤ 35184372088832) (htab : Tab w) :
    Calls Tryd.prog 43 #[.string s] w fun e w' => e = .returned (.tuple #[.int .u64 ((digV s.data.toList).1 : Int), .int .i64 (digV s.data.toList).2]) ∧ Below w.heap.size w w' := by
  have HL := Lib.hid (str_len s)
  have HT := Lib.hid htab; clear htab
  go_enter Tryd.func43, Tryd.ntmps43
  go_wp2_with fail
  go_loopw [10] (fun vi wr => ∃ i : Nat, i ≤ s.size ∧ vi = .int .i64 i ∧ Hid (∀ j, j < i → isDig (s.data.toList.getD j 0) = true) ∧ wr = w) (fun vi _ => s.size - (intOf vi).toNat)
  case atStart => exact ⟨0, Nat.zero_le _, rfl, (fun j hj => absurd hj (Nat.not_lt_zero _)), rfl⟩
  case round =>
    obtain ⟨i, hi, rfl, hall, rfl⟩ := hrel
    by_cases hlt : i < s.size
    · obtain ⟨c, hc⟩ : ∃ c : UInt8, c = s.data.toList.getD i 0 := ⟨_, rfl⟩
      have hix := run_str_at (P := Tryd.prog) s 9 Tryd.underlying9 .i64 (i : Int) i rfl hlt c hc
      have HC := Lib.hid hc
      clear hc
      rcases (show c.toNat < 48 ∨ (48 ≤ c.toNat ∧ 57 < c.toNat) ∨ (48 ≤ c.toNat ∧ c.toNat ≤ 57) by omega) with h | ⟨h, h'⟩ | ⟨h, h'⟩
      · have HA := Lib.hid (digV_bad (allDig_bad (l := s.data.toList) i (by rw [HL.out]; exact hlt) (by rw [← HC.out]; unfold isDig; simp; omega)))
        have d1 : decide ((c.toNat : Int) < 48) = true := by rw [decide_eq_true_iff]; omega
        clear h
        go_wp2_with fail
        go_ret2
        exact ⟨by rw [HA.out]; rfl, Below.refl _ _⟩
      · have HA := Lib.hid (digV_bad (allDig_bad (l := s.data.toList) i (by rw [HL.out]; exact hlt) (by rw [← HC.out]; unfold isDig; simp; omega)))
        have d1 : decide ((c.toNat : Int) < 48) = false := by rw [decide_eq_false_iff_not]; omega
        have d2 : decide (57 < (c.toNat : Int)) = true := by rw [decide_eq_true_iff]; omega
        clear h h'
        go_wp2_with fail
        go_ret2
        exact ⟨by rw [HA.out]; rfl, Below.refl _ _⟩
      · have HD : Hid (isDig c = true) := (isDig_iff c).mpr ⟨h, h'⟩
        have d1 : decide ((c.toNat : Int) < 48) = false := by rw [decide_eq_false_iff_not]; omega
        have d2 : decide (57 < (c.toNat : Int)) = false := by rw [decide_eq_false_iff_not]; omega
        clear h h'
        go_wp2_with fail
        go_roundw
        case rel =>
          refine ⟨i + 1, by omega, by go_num, ?_, trivial⟩
          intro j hj
          rcases Nat.lt_succ_iff_lt_or_eq.mp hj with h | rfl
          · exact hall.out j h
          · rw [← HC.out]; exact HD.out
        case measure => simp [intOf]; omega
    · obtain rfl : i = s.size := by omega
      have HA : Hid (allDig s.data.toList = true) := allDig_of (by rw [HL.out]; exact hall.out)
      clear hall hi hlt
      go_wp2_with fail
      refine (most_any _ HT.out).mono ?_
      rintro e w1 ⟨rfl, b1⟩
      obtain ⟨mb, hmb⟩ : ∃ mb : ByteArray, mb = ⟨mostL.toArray⟩ := ⟨_, rfl⟩
      have hms : mb.size = 20 := by rw [hmb]; rfl
      have hml : mb.toList = mostL := by rw [hmb, ByteArray.toList_eq]
      have hsl : s.toList = s.data.toList := ByteArray.toList_eq _
      rw [← hmb]
      clear hmb
      by_cases h0 : s.size = 0
      · have hE := isEmpty_true h0
        have HV := Lib.hid (digV_lead (l := s.data.toList) (by unfold lead; simp [h0]))
        clear h0 hsl hml hms
        go_wp2_with fail
        go_ret2
        exact ⟨by rw [HV.out]; rfl, b1⟩
      · have hE := isEmpty_false h0
        obtain ⟨c, hc⟩ : ∃ c : UInt8, c = s.data.toList.getD 0 0 := ⟨_, rfl⟩
        have hix := run_str_at (P := Tryd.prog) s 9 Tryd.underlying9 .i64 0 0 rfl (by omega) c hc
        by_cases hlead : 1 < s.size ∧ c = 48
        · obtain ⟨h1, rfl⟩ := hlead
          have HV := Lib.hid (digV_lead (l := s.data.toList) (by unfold lead; rw [HL.out, decide_eq_true h1, ← hc]; simp))
          have hq : (((48 : UInt8).toNat : Int) == 48) = true := by decide
          clear h0 hsl hml hms hc
          go_wp2_with fail
          go_ret2
          exact ⟨by rw [HV.out]; rfl, b1⟩
        · have HLD : Hid (lead s.data.toList = false) := by
            show _ = _
            unfold lead
            rw [HL.out, ← hc, decide_eq_false h0, Bool.false_or]
            by_cases hx : 1 < s.size
            · rw [decide_eq_true hx, decide_eq_false (fun e => hlead ⟨hx, e⟩)]; rfl
            · rw [decide_eq_false hx]; rfl
          have hov := overT_iff HA.out HLD.out
          unfold overT at hov
          rw [HL.out] at hov
          have hq : 1 < s.size → ((c.toNat : Int) == 48) = false := by
            intro h1
            rw [beq_eq_false_iff_ne]
            intro e
            exact hlead ⟨h1, UInt8.toNat_inj.mp (by have e2 : (48 : UInt8).toNat = 48 := rfl
                                                    omega)⟩
          clear hc hlead
          by_cases h1 : 1 < s.size
          · have hq := hq h1
            by_cases h20 : 20 < s.size
            · have HV := Lib.hid (digV_over HA.out HLD.out (by rw [decide_eq_true h20, Bool.true_or] at hov; exact of_decide_eq_true hov.symm))
              clear h0 hov hml hsl h1
              go_wp2_with fail
              go_ret2
              exact ⟨by rw [HV.out]; rfl, b1⟩
            · by_cases he : s.size = 20
              · rw [decide_eq_false h20, decide_eq_true he, Bool.false_or, Bool.true_and] at hov
                cases hb : Op.bytesLess mostL s.data.toList with
                | true =>
                  rw [hb] at hov
                  have HV := Lib.hid (digV_over HA.out HLD.out (of_decide_eq_true hov.symm))
                  have hb2 : (!Op.bytesLess s.toList mb.toList && !(s.toList == mb.toList)) = true := by rw [gtr_less, hml, hsl]; exact hb
                  clear h0 hov hml hsl h1 hb h20
                  go_wp2_with fail
                  go_ret2
                  exact ⟨by rw [HV.out]; rfl, b1⟩
                | false =>
                  rw [hb] at hov
                  have hb2 : (!Op.bytesLess s.toList mb.toList && !(s.toList == mb.toList)) = false := by rw [gtr_less, hml, hsl]; exact hb
                  have HM : Hid (dval s.data.toList < M64) := by
                    show _ < _
                    have := hov.symm
                    rw [decide_eq_false_iff_not] at this
                    omega
                  have HV := Lib.hid (digV_ok HA.out HLD.out HM.out)
                  clear h0 hov hml hsl h1 hb h20
                  go_wp2_with fail
                  refine (parseUint_ok s _ rfl hl HA.out HLD.out HM.out _).mono ?_
                  rintro e w2 ⟨rfl, b2⟩
                  have c2 := b1.trans (b2.mono b1.size); clear b1 b2
                  go_wp2_with fail
                  go_ret2
                  exact ⟨by rw [HV.out]; rfl, c2⟩
              · rw [decide_eq_false h20, decide_eq_false he, Bool.false_or, Bool.false_and] at hov
                have d20 : decide ((20 : Int) < (s.size : Int)) = false := by rw [decide_eq_false_iff_not]; omega
                have de : ((s.size : Int) == 20) = false := by rw [beq_eq_false_iff_ne]; omega
                have HM : Hid (dval s.data.toList < M64) := by
                  show _ < _
                  have := hov.symm
                  rw [decide_eq_false_iff_not] at this
                  omega
                have HV := Lib.hid (digV_ok HA.out HLD.out HM.out)
                clear h0 hov hml hsl
                go_wp2_with fail
                refine (parseUint_ok s _ rfl hl HA.out HLD.out HM.out _).mono ?_
                rintro e w2 ⟨rfl, b2⟩
                have c2 := b1.trans (b2.mono b1.size); clear b1 b2
                go_wp2_with fail
                go_ret2
                exact ⟨by rw [HV.out]; rfl, c2⟩
          · have h1' : s.size = 1 := by omega
            have h20 : ¬ 20 < s.size := by omega
            have he : ¬ s.size = 20 := by omega
            have d20 : decide ((20 : Int) < (s.size : Int)) = false := by rw [decide_eq_false_iff_not]; omega
            have de : ((s.size : Int) == 20) = false := by rw [beq_eq_false_iff_ne]; omega
            have d1 : decide ((1 : Int) < (s.size : Int)) = false := by rw [decide_eq_false_iff_not]; omega
            rw [decide_eq_false h20, decide_eq_false he, Bool.false_or, Bool.false_and] at hov
            have HM : Hid (dval s.data.toList < M64) := by
              show _ < _
              have := hov.symm
              rw [decide_eq_false_iff_not] at this
              omega
            have HV := Lib.hid (digV_ok HA.out HLD.out HM.out)
            clear h0 hov hml hsl h1 h20 he hq h1'
            go_wp2_with fail
            refine (parseUint_ok s _ rfl hl HA.out HLD.out HM.out _).mono ?_
            rintro e w2 ⟨rfl, b2⟩
            have c2 := b1.trans (b2.mono b1.size); clear b1 b2
            go_wp2_with fail
            go_ret2
            exact ⟨by rw [HV.out]; rfl, c2⟩
end Go.Proofs.YtllgnogiicdhfaaDoor
