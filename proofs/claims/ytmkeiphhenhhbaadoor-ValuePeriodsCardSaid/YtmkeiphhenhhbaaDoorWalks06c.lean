/-
  The walk of ValuePeriods: it returns true and leaves old memory as it was.
  Conditions: the library's table of powers of ten reads as its initialiser lays it.
-/
import Derived.Test.YtmkeiphhenhhbaaDoorWorks06
set_option linter.unusedVariables false
namespace Go.Proofs.YtmkeiphhenhhbaaDoor
open Go Go.RowKit

theorem repL_getD (p : List UInt8) (k i : Nat) (h : i < k) : (repL p k).getD i 0 = p.getD (i % p.length) 0 := by
  simp [repL, List.getD, h]
theorem repL_take (p : List UInt8) (k m : Nat) (h : m ≤ k) : (repL p k).take m = repL p m := by
  simp [repL, ← List.map_take, List.take_range, Nat.min_eq_left h]
theorem cut_list (T : List UInt8) (k : Nat) : ((⟨T.toArray⟩ : ByteArray).extract 0 k) = ⟨(T.take k).toArray⟩ := by
  apply WideShapes.bytes_inj
  rw [extract_take]

set_option maxHeartbeats 2000000 in
theorem walkValuePeriods (s : ByteArray) (ws : s.size ≤ maxLen) (n : Int) (hn : (Lit.int .u16 n).wf = true) (m : Int) (hm : (Lit.int .u16 m).wf = true) (w : World) (ht : Tab w) :
    Calls Tryd.prog 10 #[.string s, .int .u16 n, .int .u16 m] w fun e w' => e = .returned (.bool true) ∧ Below w.heap.size w w' := by
  unfold maxLen at ws
  have hm2 : 0 ≤ m ∧ m ≤ 65535 := by have e1 : IntKind.u16.min = 0 := rfl; have e2 : IntKind.u16.max = 65535 := rfl; simp [Lit.wf, e1, e2] at hm; omega
  have hn2 : 0 ≤ n ∧ n ≤ 65535 := by have e1 : IntKind.u16.min = 0 := rfl; have e2 : IntKind.u16.max = 65535 := rfl; simp [Lit.wf, e1, e2] at hn; omega
  obtain ⟨hm0, hm1⟩ := hm2
  obtain ⟨hn0, hn1⟩ := hn2
  clear hm hn
  by_cases h0 : s.size = 0 ∨ 600 < s.size
  · have hR : Hid (repeatV (⟨#[]⟩ : ByteArray).data.toList (1 + n) = ([], 2)) := repeatV_none rfl (by omega)
    obtain ⟨b, hb1, hb2⟩ : ∃ b : Bool, decide (600 < (s.size : Int)) = b ∧ (b = true ∨ s.toList.isEmpty = true) := by
      rcases h0 with h | h
      · exact ⟨_, rfl, Or.inr (isEmpty_true h)⟩
      · exact ⟨true, by simp; omega, Or.inl rfl⟩
    clear h0
    cases b <;> rcases hb2 with hb2 | hb2
    · cases hb2
    all_goals
      go_enter Tryd.func10, Tryd.ntmps10
      go_wp2_with fail
      refine (vrepeat_at ⟨#[]⟩ (1 + n) _ _ _ hR.out).mono ?_
      rintro e w1 ⟨rfl, b1⟩
      go_wp2_with fail
      refine (vrepeat_at ⟨#[]⟩ 0 [] 0 _ (by decide)).mono ?_
      rintro e w2 ⟨rfl, b2⟩
      have c2 := b1.trans (b2.mono b1.size); clear b1 b2
      go_wp2_with fail
      refine (works_any _ (ht.below c2)).mono ?_
      rintro e w4 ⟨rfl, b4⟩
      have c4 := c2.trans (b4.mono c2.size); clear c2 b4
      go_wp2_with fail
      go_ret
      exact ⟨rfl, c4⟩
  · have hE := isEmpty_false (s := s) (by omega)
    have hs1 : s.size ≤ 600 := by omega
    have hs0 : 0 < s.size := by omega
    clear h0
    by_cases h5 : 512 < n % 600
    · have HR : Hid (repeatV s.data.toList (n % 600) = ([], 12)) := repeatV_large (by rw [str_len]; omega) h5
      go_enter Tryd.func10, Tryd.ntmps10
      go_wp2_with fail
      refine (vrepeat_at s (n % 600) _ _ _ HR.out).mono ?_
      rintro e w1 ⟨rfl, b1⟩
      go_wp2_with fail
      refine (works_any _ (ht.below b1)).mono ?_
      rintro e w4 ⟨rfl, b4⟩
      have c4 := b1.trans (b4.mono b1.size); clear b1 b4
      go_wp2_with fail
      go_ret
      exact ⟨rfl, c4⟩
    · obtain ⟨k, hk⟩ : ∃ k : Nat, n % 600 = (k : Int) := ⟨(n % 600).toNat, by omega⟩
      obtain ⟨j0, hj0⟩ : ∃ j : Nat, min (n % 600) (m % 600) = (j : Int) := ⟨(min (n % 600) (m % 600)).toNat, by omega⟩
      have hjk : j0 ≤ k := by omega
      have hk5 : k ≤ 512 := by omega
      have HR : Hid (repeatV s.data.toList (n % 600) = (repL s.data.toList k, 0)) := by show _ = _; rw [hk]; exact repeatV_ok (by rw [str_len]; omega) hk5
      have HQ : Hid (repeatV s.data.toList (min (n % 600) (m % 600)) = (repL s.data.toList j0, 0)) := by show _ = _; rw [hj0]; exact repeatV_ok (by rw [str_len]; omega) (by omega)
      have hcut : ((⟨(repL s.data.toList k).toArray⟩ : ByteArray).extract 0 (min (n % 600) (m % 600)).toNat) = ⟨(repL s.data.toList j0).toArray⟩ := by
        rw [cut_list, hj0, Int.toNat_natCast, repL_take _ _ _ hjk]
      have HC := Lib.hid hcut
      have HG : Hid (∀ i, i < k → (repL s.data.toList k).getD i 0 = s.data.toList.getD (i % s.size) 0) := fun i hi => by rw [repL_getD _ _ _ hi, str_len]
      have hRl : (repL s.data.toList k).length = k := repL_length _ _
      generalize hRR : repL s.data.toList k = R at *
      clear hRR
      have hne : ((R.length : Int) != n % 600) = false := by rw [bne_eq_false_iff_eq, hRl, hk]
      have hRz : (⟨R.toArray⟩ : ByteArray).size = k := by rw [size_list, hRl]
      have HRz := Lib.hid hRz
      have hRl1 : R.length ≤ k := by omega
      have hRl2 : k ≤ R.length := by omega
      have hmn0 : 0 ≤ min (n % 600) (m % 600) := by omega
      have hmn1 : min (n % 600) (m % 600) ≤ (R.length : Int) := by omega
      have hnk1 : n % 600 ≤ (k : Int) := by omega
      have hnk2 : (k : Int) ≤ n % 600 := by omega
      clear hk hj0 hRl hcut hRz
      go_enter Tryd.func10, Tryd.ntmps10
      go_wp2_with fail
      refine (vrepeat_at s (n % 600) _ _ _ HR.out).mono ?_
      rintro e w1 ⟨rfl, b1⟩
      go_wp2_with fail
      go_loopw [14] (fun vi wr => ∃ j : Nat, j ≤ k ∧ vi = .int .i64 j ∧ Below w.heap.size w wr) (fun vi _ => k - (intOf vi).toNat)
      case atStart => exact ⟨0, Nat.zero_le _, rfl, b1⟩
      case round =>
        obtain ⟨j, hj, rfl, hbr⟩ := hrel
        clear b1
        by_cases hlt : j < k
        · obtain ⟨x, hx⟩ : ∃ x : UInt8, x = R.getD j 0 := ⟨_, rfl⟩
          have i1 := run_str_at (P := Tryd.prog) ⟨R.toArray⟩ 9 Tryd.underlying9 .i64 (j : Int) j rfl (by rw [HRz.out]; exact hlt) x hx
          by_cases hjs : j < s.size
          · have i2 := run_str_at (P := Tryd.prog) s 9 Tryd.underlying9 .i64 (j : Int) j rfl hjs x (by rw [hx, HG.out j hlt, Nat.mod_eq_of_lt hjs])
            have d1 : decide ((j : Int) < (s.size : Int)) = true := by simp; omega
            have d2 : decide ((s.size : Int) ≤ (j : Int)) = false := by simp; omega
            have d3 : decide (j < s.size) = true := by simp; omega
            have d4 : decide (s.size ≤ j) = false := by simp; omega
            clear hx
            go_wp2_with fail
            go_quiet (fail)
            go_wp2_with fail
            go_roundw
            case rel => exact ⟨j + 1, by omega, by go_num, below_drewN hbr _⟩
            case measure => simp [intOf]; omega
          · have i2 := run_str_at (P := Tryd.prog) ⟨R.toArray⟩ 9 Tryd.underlying9 .i64 ((j : Int) - (s.size : Int)) (j - s.size) (by omega) (by rw [HRz.out]; omega) x (by
              show x = R.getD (j - s.size) 0
              rw [hx, HG.out j hlt, HG.out (j - s.size) (by omega), Nat.mod_eq_sub_mod (by omega)])
            have d1 : decide ((j : Int) < (s.size : Int)) = false := by simp; omega
            have d2 : decide ((s.size : Int) ≤ (j : Int)) = true := by simp; omega
            have d3 : decide (j < s.size) = false := by simp; omega
            have d4 : decide (s.size ≤ j) = true := by simp; omega
            clear hx
            go_wp2_with fail
            go_quiet (fail)
            go_wp2_with fail
            go_roundw
            case rel => exact ⟨j + 1, by omega, by go_num, below_drewN hbr _⟩
            case measure => simp [intOf]; omega
        · go_wp2_with fail
          refine (vrepeat_at s _ _ _ _ HQ.out).mono ?_
          rintro e w2 ⟨rfl, b2⟩
          have c2 := hbr.trans (b2.mono hbr.size); clear hbr b2
          rw [← HC.out]
          go_wp2_with fail
          refine (works_any _ (ht.below c2)).mono ?_
          rintro e w4 ⟨rfl, b4⟩
          have c4 := c2.trans (b4.mono c2.size); clear c2 b4
          go_wp2_with fail
          go_ret
          exact ⟨rfl, c4⟩
end Go.Proofs.YtmkeiphhenhhbaaDoor
