/-
  What the reference of layer 1 decodes from decimal digits.
  Conditions: at most 2^45 bytes.
-/
import Derived.Test.YtllgnogiicdhfaaDoorDigRef
import Derived.Test.YtllgnogiicdhfaaDoorDig01
import Derived.Test.YtllgnogiicdhfaaDoorCut
import Derived.Lib.EndianBits
set_option linter.unusedVariables false
namespace Go.Proofs.YtllgnogiicdhfaaDoor
open Go Go.RowKit

theorem over_step {l : List UInt8} {i : Nat} {n d : Nat} {o : Bool} (hi : i < l.length) (hd : (l.getD i 0).toNat - 48 = d) (hd9 : d ≤ 9) (ho : o = decide (M64 ≤ dval (l.take i))) (hn : o = false → n = dval (l.take i)) :
    (o || decide ((18446744073709551615 - (d : Int)) / 10 < (n : Int))) = decide (M64 ≤ dval (l.take (i + 1))) := by
  rw [dval_take_succ l i hi, hd]
  have hM : M64 = 18446744073709551616 := rfl
  cases o with
  | true =>
    have := of_decide_eq_true ho.symm
    rw [decide_eq_true (show M64 ≤ dval (l.take i) * 10 + d by omega), Bool.true_or]
  | false =>
    have := of_decide_eq_false ho.symm
    rw [hn rfl, Bool.false_or]
    exact decide_eq_decide.mpr (by omega)
theorem over_false {l : List UInt8} {i : Nat} (hi : i < l.length) (h : decide (M64 ≤ dval (l.take (i + 1))) = false) : decide (M64 ≤ dval (l.take i)) = false := by
  have h2 := of_decide_eq_false h
  rw [dval_take_succ l i hi] at h2
  rw [decide_eq_false_iff_not]
  omega

set_option maxHeartbeats 2000000 in
theorem rparseDigits_any (s : ByteArray) (w : World) (hl : s.size ≤ 35184372088832) :
    Calls Tryd.prog 44 #[.string s] w fun e w' => e = .returned (.tuple #[.int .u64 ((digV s.data.toList).1 : Int), .int .i64 (digV s.data.toList).2]) ∧ w' = w := by
  have HL := Lib.hid (str_len s)
  by_cases h0 : s.size = 0
  · have hE := isEmpty_true h0
    have HV := Lib.hid (digV_lead (l := s.data.toList) (by unfold lead; simp [h0]))
    clear h0
    go_enter Tryd.func44, Tryd.ntmps44
    go_wp2_with fail
    go_ret2
    exact ⟨by rw [HV.out]; rfl, rfl⟩
  · have hE := isEmpty_false h0
    obtain ⟨c, hc⟩ : ∃ c : UInt8, c = s.data.toList.getD 0 0 := ⟨_, rfl⟩
    have hix := run_str_at (P := Tryd.prog) s 9 Tryd.underlying9 .i64 0 0 rfl (by omega) c hc
    by_cases hlead : 1 < s.size ∧ c = 48
    · obtain ⟨h1, rfl⟩ := hlead
      have HV := Lib.hid (digV_lead (l := s.data.toList) (by unfold lead; rw [HL.out, decide_eq_true h1, ← hc]; simp))
      have hq : (((48 : UInt8).toNat : Int) == 48) = true := by decide
      clear h0 hc
      go_enter Tryd.func44, Tryd.ntmps44
      go_wp2_with fail
      go_ret2
      exact ⟨by rw [HV.out]; rfl, rfl⟩
    · have HLD : Hid (lead s.data.toList = false) := by
        show _ = _
        unfold lead
        rw [HL.out, ← hc, decide_eq_false h0, Bool.false_or]
        by_cases hx : 1 < s.size
        · rw [decide_eq_true hx, decide_eq_false (fun e => hlead ⟨hx, e⟩)]; rfl
        · rw [decide_eq_false hx]; rfl
      have hcase : ((c.toNat : Int) == 48) = false ∨ (((c.toNat : Int) == 48) = true ∧ decide ((1 : Int) < (s.size : Int)) = false) := by
        by_cases e : c = 48
        · right
          refine ⟨by rw [e]; decide, ?_⟩
          rw [decide_eq_false_iff_not]
          intro h
          exact hlead ⟨by omega, e⟩
        · left
          rw [beq_eq_false_iff_ne]
          intro e2
          exact e (UInt8.toNat_inj.mp (by have e3 : (48 : UInt8).toNat = 48 := rfl
                                          omega))
      clear hc hlead h0
      have main : ∀ (Q : Prop), Q → Q := fun _ h => h
      rcases hcase with hq | ⟨hq, hq2⟩
      all_goals
        go_enter Tryd.func44, Tryd.ntmps44
        go_wp2_with fail
        go_loopw [4, 5, 6] (fun vn vo vi wr => ∃ (i n : Nat) (o : Bool), i ≤ s.size ∧ vi = .int .i64 i ∧ vo = .bool o ∧ vn = .int .u64 (n : Int) ∧ Hid (∀ j, j < i → isDig (s.data.toList.getD j 0) = true) ∧ Hid (n < 256 ^ 8) ∧ Hid (o = decide (M64 ≤ dval (s.data.toList.take i))) ∧ Hid (o = false → n = dval (s.data.toList.take i)) ∧ wr = w) (fun _ _ vi _ => s.size - (intOf vi).toNat)
        case atStart => exact ⟨0, 0, false, Nat.zero_le _, rfl, rfl, rfl, (fun j hj => absurd hj (Nat.not_lt_zero _)), by show 0 < 256 ^ 8; decide, rfl, (fun _ => rfl), rfl⟩
        case round =>
          obtain ⟨i, n, o, hi, rfl, rfl, rfl, hall, hn8, ho, hn, rfl⟩ := hrel
          by_cases hlt : i < s.size
          · obtain ⟨x, hx⟩ : ∃ x : UInt8, x = s.data.toList.getD i 0 := ⟨_, rfl⟩
            have hix2 := run_str_at (P := Tryd.prog) s 9 Tryd.underlying9 .i64 (i : Int) i rfl hlt x hx
            have HX := Lib.hid hx
            clear hx
            rcases (show x.toNat < 48 ∨ (48 ≤ x.toNat ∧ 57 < x.toNat) ∨ (48 ≤ x.toNat ∧ x.toNat ≤ 57) by omega) with h | ⟨h, h'⟩ | ⟨h, h'⟩
            · have HA := Lib.hid (digV_bad (allDig_bad (l := s.data.toList) i (by rw [HL.out]; exact hlt) (by rw [← HX.out]; unfold isDig; simp; omega)))
              have d1 : decide ((x.toNat : Int) < 48) = true := by rw [decide_eq_true_iff]; omega
              clear h
              go_wp2_with fail
              go_ret2
              exact ⟨by rw [HA.out]; rfl, rfl⟩
            · have HA := Lib.hid (digV_bad (allDig_bad (l := s.data.toList) i (by rw [HL.out]; exact hlt) (by rw [← HX.out]; unfold isDig; simp; omega)))
              have d1 : decide ((x.toNat : Int) < 48) = false := by rw [decide_eq_false_iff_not]; omega
              have d2 : decide (57 < (x.toNat : Int)) = true := by rw [decide_eq_true_iff]; omega
              clear h h'
              go_wp2_with fail
              go_ret2
              exact ⟨by rw [HA.out]; rfl, rfl⟩
            · have HD : Hid (isDig x = true) := (isDig_iff x).mpr ⟨h, h'⟩
              have d1 : decide ((x.toNat : Int) < 48) = false := by rw [decide_eq_false_iff_not]; omega
              have d2 : decide (57 < (x.toNat : Int)) = false := by rw [decide_eq_false_iff_not]; omega
              obtain ⟨d, hd⟩ : ∃ d, x.toNat - 48 = d := ⟨_, rfl⟩
              have e8 : (256 : Nat) ^ 8 = 18446744073709551616 := by decide
              have hn8' := hn8.out
              rw [e8] at hn8'
              have w1 : IntKind.u8.wrap ((x.toNat : Int) - 48) = (d : Int) := by rw [IntKind.wrap_u8]; omega
              have w2 : IntKind.u64.wrap (d : Int) = (d : Int) := wrap_u64 (m := d) rfl (by omega)
              have w3 : IntKind.u64.wrap (18446744073709551615 - (d : Int)) = 18446744073709551615 - (d : Int) := wrap_u64 (m := 18446744073709551615 - d) (by omega) (by omega)
              obtain ⟨q, hq8⟩ : ∃ q : Int, (18446744073709551615 - (d : Int)) / 10 = q := ⟨_, rfl⟩
              have hq9 : (18446744073709551615 - (d : Int)).tdiv 10 = q := by rw [Int.tdiv_eq_ediv_of_nonneg (by omega)]; exact hq8
              have w4 : IntKind.u64.wrap q = q := wrap_u64 (m := (18446744073709551615 - d) / 10) (by omega) (by omega)
              obtain ⟨m, hm⟩ : ∃ m : Nat, n * 10 % 18446744073709551616 = m := ⟨_, rfl⟩
              have w5 : IntKind.u64.wrap ((n : Int) * 10) = (m : Int) := by rw [Go.IntKind.wrap_u64]; omega
              obtain ⟨n', hn'⟩ : ∃ n' : Nat, (m + d) % 18446744073709551616 = n' := ⟨_, rfl⟩
              have w6 : IntKind.u64.wrap ((m : Int) + (d : Int)) = (n' : Int) := by rw [Go.IntKind.wrap_u64]; omega
              obtain ⟨t, ht⟩ : ∃ t : Bool, decide (q < (n : Int)) = t := ⟨_, rfl⟩
              have HO : Hid ((o || t) = decide (M64 ≤ dval (s.data.toList.take (i + 1)))) := by
                have h2 := over_step (l := s.data.toList) (i := i) (n := n) (d := d) (o := o) (by rw [HL.out]; exact hlt) (by rw [← HX.out]; exact hd) (by omega) ho.out hn.out
                rw [hq8, ht] at h2
                exact h2
              have HN2 : Hid ((o || t) = false → n' = dval (s.data.toList.take (i + 1))) := by
                intro hf
                have h3 := HO.out
                rw [hf] at h3
                have h4 := over_false (l := s.data.toList) (i := i) (by rw [HL.out]; exact hlt) h3.symm
                have h5 := hn.out (by rw [ho.out, h4])
                have h6 := of_decide_eq_false h3.symm
                have h7 := dval_take_succ s.data.toList i (by rw [HL.out]; exact hlt)
                rw [← HX.out, hd] at h7
                have hM : M64 = 18446744073709551616 := rfl
                omega
              have H8 : Hid (n' < 256 ^ 8) := by show n' < 256 ^ 8; omega
              have HALL : Hid (∀ j, j < i + 1 → isDig (s.data.toList.getD j 0) = true) := by
                intro j hj
                rcases Nat.lt_succ_iff_lt_or_eq.mp hj with h | rfl
                · exact hall.out j h
                · rw [← HX.out]; exact HD.out
              clear h h' hd e8 hn8' hm hn' hn8 ho hn hall
              cases o with
              | true =>
                clear hq8 hq9 ht
                go_wp2_with fail
                go_roundw
                case rel => exact ⟨i + 1, n', true, by omega, by go_num, rfl, rfl, HALL, H8, HO, HN2, trivial⟩
                case measure => simp [intOf]; omega
              | false =>
                go_wp2_with fail
                go_roundw
                case rel => exact ⟨i + 1, n', t, by omega, by go_num, rfl, rfl, HALL, H8, HO, HN2, trivial⟩
                case measure => simp [intOf]; omega
          · obtain rfl : i = s.size := by omega
            have HA : Hid (allDig s.data.toList = true) := allDig_of (by rw [HL.out]; exact hall.out)
            have htk : s.data.toList.take s.size = s.data.toList := List.take_of_length_le (by rw [HL.out]; exact Nat.le_refl _)
            rw [htk] at ho hn
            cases o with
            | true =>
              have HV := Lib.hid (digV_over HA.out HLD.out (of_decide_eq_true ho.out.symm))
              clear hi hlt htk
              go_wp2_with fail
              go_ret2
              exact ⟨by rw [HV.out]; rfl, rfl⟩
            | false =>
              have HV := Lib.hid (digV_ok HA.out HLD.out (by have := of_decide_eq_false ho.out.symm; omega))
              have HN := Lib.hid (hn.out rfl)
              clear hi hlt htk
              go_wp2_with fail
              go_ret2
              exact ⟨by rw [HV.out, HN.out]; rfl, rfl⟩
end Go.Proofs.YtllgnogiicdhfaaDoor
