/-
  What the reference's Order and Next of layer 5 compute.
  Conditions: at most 2^40 bytes.
-/
import Derived.Test.YthmbcjladgnigaaDoorKeyRef
import Derived.Lib.TrimByte
set_option linter.unusedVariables false
namespace Go.Proofs.YthmbcjladgnigaaDoor
open Go Go.RowKit

set_option maxHeartbeats 1000000 in
theorem rkorder_any (a b : ByteArray) (ha : a.size ≤ 1099511627776) (hb : b.size ≤ 1099511627776) (w : World) :
    Calls Tryd.prog 17 #[.string a, .string b] w fun e w' => e = .returned (.int .i64 (Lib.compareBytes a.data.toList b.data.toList)) ∧ Below w.heap.size w w' := by
  have hla : a.data.toList.length = a.size := str_len a
  have hlb : b.data.toList.length = b.size := str_len b
  have ho := order_is a.data.toList b.data.toList
  obtain ⟨h1, h2, _, h4⟩ := common_spec a.data.toList b.data.toList
  obtain ⟨c, hc⟩ : ∃ c, commonL a.data.toList b.data.toList = c := ⟨_, rfl⟩
  have HC := Lib.hid hc
  rw [hc] at h1 h2 h4 ho
  rw [hla] at h1 h4 ho
  rw [hlb] at h2 h4 ho
  clear hc hla hlb
  by_cases g1 : c = a.size
  · have t1 : ((c : Int) == (a.size : Int)) = true := by rw [beq_iff_eq]; omega
    have t1n : (c == a.size) = true := by rw [beq_iff_eq]; omega
    by_cases g2 : c = b.size
    · have t2 : ((c : Int) == (b.size : Int)) = true := by rw [beq_iff_eq]; omega
      have t2n : (c == b.size) = true := by rw [beq_iff_eq]; omega
      rw [if_pos ⟨g1, g2⟩] at ho
      have HO := Lib.hid ho
      clear ho h4 g1 g2
      go_enter Tryd.func17, Tryd.ntmps17
      go_wp2_with fail
      refine (rkcommon_any a b ha hb _).mono ?_
      rw [HC.out]
      rintro e w2 ⟨rfl, c1⟩
      go_wp2_with fail
      go_ret
      exact ⟨by rw [HO.out]; rfl, c1⟩
    · have t2 : ((c : Int) == (b.size : Int)) = false := by rw [beq_eq_false_iff_ne]; omega
      have t2n : (c == b.size) = false := by rw [beq_eq_false_iff_ne]; omega
      rw [if_neg (fun h => g2 h.2), if_pos (Or.inl g1)] at ho
      have HO := Lib.hid ho
      clear ho h4 g1 g2
      go_enter Tryd.func17, Tryd.ntmps17
      go_wp2_with fail
      refine (rkcommon_any a b ha hb _).mono ?_
      rw [HC.out]
      rintro e w2 ⟨rfl, c1⟩
      go_wp2_with fail
      go_quiet (fail)
      have c2 := c1.trans ((below_drewN w2 nq).mono c1.size)
      generalize w2.drewN nq = w3 at *
      go_wp2_with fail
      go_ret
      exact ⟨by rw [HO.out]; rfl, c2⟩
  · have t1 : ((c : Int) == (a.size : Int)) = false := by rw [beq_eq_false_iff_ne]; omega
    have t1n : (c == a.size) = false := by rw [beq_eq_false_iff_ne]; omega
    by_cases g2 : c = b.size
    · have d2 : decide ((c : Int) < (b.size : Int)) = false := by rw [decide_eq_false_iff_not]; omega
      have d2n : decide (c < b.size) = false := by rw [decide_eq_false_iff_not]; omega
      rw [if_neg (fun h => g1 h.1), if_neg (by omega)] at ho
      have HO := Lib.hid ho
      clear ho h4 g1 g2
      go_enter Tryd.func17, Tryd.ntmps17
      go_wp2_with fail
      refine (rkcommon_any a b ha hb _).mono ?_
      rw [HC.out]
      rintro e w2 ⟨rfl, c1⟩
      go_wp2_with fail
      go_quiet (fail)
      have c2 := c1.trans ((below_drewN w2 nq).mono c1.size)
      generalize w2.drewN nq = w3 at *
      go_wp2_with fail
      go_ret
      exact ⟨by rw [HO.out]; rfl, c2⟩
    · have d2 : decide ((c : Int) < (b.size : Int)) = true := by rw [decide_eq_true_iff]; omega
      have d2n : decide (c < b.size) = true := by rw [decide_eq_true_iff]; omega
      obtain ⟨x, hx⟩ : ∃ x, a.data.toList.getD c 0 = x := ⟨_, rfl⟩
      obtain ⟨y, hy⟩ : ∃ y, b.data.toList.getD c 0 = y := ⟨_, rfl⟩
      have i1 := run_str_at (P := Tryd.prog) a 9 Tryd.underlying9 .i64 (c : Int) c rfl (by omega) x hx.symm
      have i2 := run_str_at (P := Tryd.prog) b 9 Tryd.underlying9 .i64 (c : Int) c rfl (by omega) y hy.symm
      rw [hx, hy] at ho
      clear hx hy h4
      by_cases hxy : x.toNat < y.toNat
      · have d3 : decide ((x.toNat : Int) < (y.toNat : Int)) = true := by rw [decide_eq_true_iff]; omega
        have d3n : decide (x.toNat < y.toNat) = true := by rw [decide_eq_true_iff]; omega
        rw [if_neg (fun h => g1 h.1), if_pos (Or.inr ⟨by omega, hxy⟩)] at ho
        have HO := Lib.hid ho
        have hcb : c < b.size := by omega
        have hca : c < a.size := by omega
        clear ho g1 g2 hxy
        go_enter Tryd.func17, Tryd.ntmps17
        go_wp2_with fail
        refine (rkcommon_any a b ha hb _).mono ?_
        rw [HC.out]
        rintro e w2 ⟨rfl, c1⟩
        go_wp2_with fail
        go_quiet (fail)
        have c2 := c1.trans ((below_drewN w2 nq).mono c1.size)
        generalize w2.drewN nq = w3 at *
        go_wp2_with fail
        go_ret
        exact ⟨by rw [HO.out]; rfl, c2⟩
      · have d3 : decide ((x.toNat : Int) < (y.toNat : Int)) = false := by rw [decide_eq_false_iff_not]; omega
        have d3n : decide (x.toNat < y.toNat) = false := by rw [decide_eq_false_iff_not]; omega
        rw [if_neg (fun h => g1 h.1), if_neg (fun h => h.elim (fun h => g1 h) (fun h => hxy h.2))] at ho
        have HO := Lib.hid ho
        have hcb : c < b.size := by omega
        have hca : c < a.size := by omega
        clear ho g1 g2 hxy
        go_enter Tryd.func17, Tryd.ntmps17
        go_wp2_with fail
        refine (rkcommon_any a b ha hb _).mono ?_
        rw [HC.out]
        rintro e w2 ⟨rfl, c1⟩
        go_wp2_with fail
        go_quiet (fail)
        have c2 := c1.trans ((below_drewN w2 nq).mono c1.size)
        generalize w2.drewN nq = w3 at *
        go_wp2_with fail
        go_ret
        exact ⟨by rw [HO.out]; rfl, c2⟩
end Go.Proofs.YthmbcjladgnigaaDoor
