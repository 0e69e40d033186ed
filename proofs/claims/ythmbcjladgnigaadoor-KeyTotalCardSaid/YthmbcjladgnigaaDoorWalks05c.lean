/-
  The walk of KeyTotal.
  Conditions: the library's table lies in the world.
-/
import Derived.Test.YthmbcjladgnigaaDoorWalks05b
import Derived.StillTailTactics
set_option linter.unusedVariables false
namespace Go.Proofs.YthmbcjladgnigaaDoor
open Go Go.RowKit

set_option maxHeartbeats 1000000 in
theorem kcommon_quiet (a b : ByteArray) (ha : a.size ≤ 1099511627776) (hb : b.size ≤ 1099511627776) (w : World) :
    Calls Tryd.prog 18 #[.string a, .string b] w fun e w' => e = .returned (.int .i64 (commonL a.data.toList b.data.toList : Int)) ∧ ∃ n, w' = w.drewN n := by
  have hla : a.data.toList.length = a.size := str_len a
  have hlb : b.data.toList.length = b.size := str_len b
  have HA := Lib.hid hla
  have HB := Lib.hid hlb
  obtain ⟨m, hm⟩ : ∃ m : Nat, min (a.size : Int) (b.size : Int) = (m : Int) := ⟨min a.size b.size, by omega⟩
  have hm1 : m ≤ a.size := by omega
  have hm2 : m ≤ b.size := by omega
  have HM : Hid (m = a.size ∨ m = b.size) := by show m = a.size ∨ m = b.size; omega
  clear hla hlb
  go_enter Tryd.func18, Tryd.ntmps18
  go_wp2_with fail
  go_loopw [13] (fun vi wr => ∃ i : Nat, i ≤ m ∧ vi = .int .i64 i ∧ Hid (∀ j, j < i → a.data.toList.getD j 0 = b.data.toList.getD j 0) ∧ ∃ n, wr = w.drewN n) (fun vi _ => m - (intOf vi).toNat)
  case atStart => exact ⟨0, Nat.zero_le _, rfl, fun j hj => absurd hj (Nat.not_lt_zero _), 0, rfl⟩
  case round =>
    obtain ⟨i, hi, rfl, hk, n0, rfl⟩ := hrel
    by_cases hlt : i < m
    · obtain ⟨x, hx⟩ : ∃ x, a.data.toList.getD i 0 = x := ⟨_, rfl⟩
      obtain ⟨y, hy⟩ : ∃ y, b.data.toList.getD i 0 = y := ⟨_, rfl⟩
      have i1 := run_str_at (P := Tryd.prog) a 9 Tryd.underlying9 .i64 (i : Int) i rfl (by omega) x hx.symm
      have i2 := run_str_at (P := Tryd.prog) b 9 Tryd.underlying9 .i64 (i : Int) i rfl (by omega) y hy.symm
      by_cases hxy : x = y
      · have hne : ((x.toNat : Int) != (y.toNat : Int)) = false := by rw [hxy]; simp
        have HK : Hid (∀ j, j < i + 1 → a.data.toList.getD j 0 = b.data.toList.getD j 0) := by
          intro j hj
          by_cases h : j < i
          · exact hk.out j h
          · obtain rfl : j = i := by omega
            rw [hx, hy, hxy]
        clear hx hy hxy hk
        go_wp2_with fail
        go_quiet (fail)
        go_wp2_with fail
        go_roundw
        case rel => exact ⟨i + 1, by omega, by go_num, HK, _, rfl⟩
        case measure => simp [intOf]; omega
      · have hne : ((x.toNat : Int) != (y.toNat : Int)) = true := by
          rw [bne_iff_ne]; intro h; exact hxy (UInt8.toNat_inj.1 (by omega))
        have HC := Lib.hid (common_is a.data.toList b.data.toList i (by have := HA.out; omega) (by have := HB.out; omega) hk.out (Or.inr (Or.inr (by rw [hx, hy]; exact hxy))))
        clear hx hy hxy hk
        go_wp2_with fail
        go_quiet (fail)
        go_wp2_with fail
        go_ret
        exact ⟨by rw [HC.out]; rfl, _, World.drewN_drewN _ _ _⟩
    · obtain rfl : i = m := by omega
      have HC := Lib.hid (common_is a.data.toList b.data.toList i (by have := HA.out; omega) (by have := HB.out; omega) hk.out (by
        rcases HM.out with h | h
        · exact Or.inl (by have := HA.out; omega)
        · exact Or.inr (Or.inl (by have := HB.out; omega))))
      clear hk
      go_wp2_with fail
      go_ret
      exact ⟨by rw [HC.out]; rfl, _, rfl⟩


theorem quiet_n {P : Program} {f : FuncId} {args : Array Value} {w : World} {a n : Nat} {v : Value}
    (h : Calls P f args (w.drewN (a + n)) fun e w' => e = .returned v ∧ ∃ m, w' = (w.drewN (a + n)).drewN m) :
    Calls P f args (w.drewN (a + n)) fun e w' => e = .returned v ∧ ∃ m, w' = w.drewN (a + m) := by
  refine h.mono ?_
  rintro e w' ⟨he, m, rfl⟩
  exact ⟨he, n + m, by rw [World.drewN_drewN, Nat.add_assoc]⟩
theorem common_swap (a b : List UInt8) : commonL b a = commonL a b := by
  obtain ⟨h1, h2, h3, h4⟩ := common_spec a b
  refine common_is b a _ h2 h1 (fun j hj => (h3 j hj).symm) ?_
  rcases h4 with h | h | h
  · exact Or.inr (Or.inl h)
  · exact Or.inl h
  · exact Or.inr (Or.inr (Ne.symm h))
set_option maxRecDepth 100000 in
set_option maxHeartbeats 8000000 in
/-- One of the ways: what is known of the three orders and of the common prefix. -/
theorem total_on (a b c : ByteArray) (x y z : Int) (k : Nat) (w : World) (HT : Hid (Tab w)) (la : a.size ≤ 200) (lb : b.size ≤ 200) (lc : c.size ≤ 200)
    (HX : Hid (Lib.compareBytes a.data.toList b.data.toList = x)) (HY : Hid (Lib.compareBytes b.data.toList c.data.toList = y)) (HZ : Hid (Lib.compareBytes a.data.toList c.data.toList = z)) (HX2 : Hid (Lib.compareBytes b.data.toList a.data.toList = -x))
    (HK : Hid (commonL a.data.toList b.data.toList = k)) (ka : k ≤ a.size) (kb : k ≤ b.size) (hcut : ((a.extract 0 k).toList == (b.extract 0 k).toList) = true) (hx1 : -1 ≤ x) (hx2 : x ≤ 1)
    (e1 : (x == 0) = (a.toList == b.toList))
    (hyz : decide (y ≤ 0) = false ∨ (decide (y ≤ 0) = true ∧ decide (0 < z) = false ∧ (decide (x < 0) = true → decide (0 ≤ z) = false)) ∨ decide (x ≤ 0) = false)
    (hk : (x = 0 ∧ k = a.size ∧ k = b.size) ∨ (x = -1 ∧ k = a.size ∧ k ≠ b.size) ∨ (x = 1 ∧ k ≠ a.size ∧ k = b.size) ∨
      (k ≠ a.size ∧ k ≠ b.size ∧ ((x = -1 ∧ (a.data.toList.getD k 0).toNat < (b.data.toList.getD k 0).toNat) ∨ (x = 1 ∧ (b.data.toList.getD k 0).toNat < (a.data.toList.getD k 0).toNat)))) :
    Calls Tryd.prog 7 #[.string a, .string b, .string c] w fun e w' => e = .returned (.bool true) ∧ Below w.heap.size w w' := by
  have HS : Hid (a.size ≤ 1099511627776 ∧ b.size ≤ 1099511627776) := ⟨by omega, by omega⟩
  have c1 := Below.refl w.heap.size w
  have d1 : decide ((200 : Int) < (a.size : Int)) = false := by rw [decide_eq_false_iff_not]; omega
  have d2 : decide ((200 : Int) < (b.size : Int)) = false := by rw [decide_eq_false_iff_not]; omega
  have d3 : decide ((200 : Int) < (c.size : Int)) = false := by rw [decide_eq_false_iff_not]; omega
  have d4 : decide ((a.size : Int) < (k : Int)) = false := by rw [decide_eq_false_iff_not]; omega
  have d5 : decide ((b.size : Int) < (k : Int)) = false := by rw [decide_eq_false_iff_not]; omega
  have d6 : decide (a.size < k) = false := by rw [decide_eq_false_iff_not]; omega
  have d7 : decide (b.size < k) = false := by rw [decide_eq_false_iff_not]; omega
  have isa : ∀ wx, (Instr.slice 9 (.string a) none (some (.int .i64 (k : Int))) none).run Tryd.prog wx = .ok (.string (a.extract 0 k)) wx := fun wx => by
    rw [run_slice_string_h wx 9 a Tryd.underlying9 .i64 (k : Int) (by omega) (by omega), Int.toNat_natCast]
  have isb : ∀ wx, (Instr.slice 9 (.string b) none (some (.int .i64 (k : Int))) none).run Tryd.prog wx = .ok (.string (b.extract 0 k)) wx := fun wx => by
    rw [run_slice_string_h wx 9 b Tryd.underlying9 .i64 (k : Int) (by omega) (by omega), Int.toNat_natCast]
  have kq : ∀ W, Calls Tryd.prog 18 #[.string b, .string a] W fun e w' => e = .returned (.int .i64 (k : Int)) ∧ ∃ n, w' = W.drewN n := fun W => by
    have h := kcommon_quiet b a HS.out.2 HS.out.1 W
    rw [common_swap, HK.out] at h
    exact h
  have HS : Hid (a.size ≤ 1099511627776 ∧ b.size ≤ 1099511627776 ∧ True) := ⟨by omega, by omega, trivial⟩
  have d0 : decide ((k : Int) < 0) = false := by rw [decide_eq_false_iff_not]; omega
  have hca : (k < a.size ∧ ((k : Int) == (a.size : Int)) = false ∧ (k == a.size) = false) ∨ (k = a.size ∧ ((k : Int) == (a.size : Int)) = true ∧ (k == a.size) = true) := by
    by_cases h : k = a.size
    · exact Or.inr ⟨h, by rw [beq_iff_eq]; omega, by rw [beq_iff_eq]; omega⟩
    · exact Or.inl ⟨by omega, by rw [beq_eq_false_iff_ne]; omega, by rw [beq_eq_false_iff_ne]; omega⟩
  have hcb : (k < b.size ∧ ((k : Int) == (b.size : Int)) = false ∧ (k == b.size) = false) ∨ (k = b.size ∧ ((k : Int) == (b.size : Int)) = true ∧ (k == b.size) = true) := by
    by_cases h : k = b.size
    · exact Or.inr ⟨h, by rw [beq_iff_eq]; omega, by rw [beq_iff_eq]; omega⟩
    · exact Or.inl ⟨by omega, by rw [beq_eq_false_iff_ne]; omega, by rw [beq_eq_false_iff_ne]; omega⟩
  rcases hk with ⟨rfl, h1, h2⟩ | ⟨rfl, h1, h2⟩ | ⟨rfl, h1, h2⟩ | ⟨h1, h2, h3⟩
  · have e2 : (a.toList == b.toList) = true := by rw [← e1]; rfl
    obtain ⟨ta, ta2⟩ : ((k : Int) == (a.size : Int)) = true ∧ (k == a.size) = true := by rcases hca with h | h; · omega
                                                                                         · exact h.2
    obtain ⟨tb, tb2⟩ : ((k : Int) == (b.size : Int)) = true ∧ (k == b.size) = true := by rcases hcb with h | h; · omega
                                                                                         · exact h.2
    have g1 : decide (y ≤ 0) = false ∨ (decide (y ≤ 0) = true ∧ decide (0 < z) = false) := by
      rcases hyz with h | ⟨h, h', _⟩ | h
      · exact Or.inl h
      · exact Or.inr ⟨h, h'⟩
      · simp at h
    clear e1 h1 h2 hyz hca hcb
    rcases g1 with g1 | ⟨g1, g2⟩
    all_goals
      go_enter Tryd.func7, Tryd.ntmps7
      go_wp2_with fail
      refine (korder_is a b _ HX.out _).mono ?_
      rintro e w101 ⟨rfl, rfl⟩
      go_wp2_with fail
      refine (korder_is b c y HY.out _).mono ?_
      rintro e w102 ⟨rfl, rfl⟩
      go_wp2_with fail
      refine (korder_is a c z HZ.out _).mono ?_
      rintro e w103 ⟨rfl, rfl⟩
      go_wp2_with fail
      refine (korder_is b a _ HX2.out _).mono ?_
      rintro e w104 ⟨rfl, rfl⟩
      go_wp2_with fail
      refine (kcommon_is a b _ _ rfl HS.out.1 HS.out.2.1 HK.out _).mono ?_
      rintro e w105 ⟨rfl, b1⟩
      have c2 := c1.trans (b1.mono c1.size); clear c1 b1
      have c1 := c2; clear c2
      go_wp2_with fail
      go_quiet ((go_at_call 18; first | exact quiet_n (kq _) | exact Calls.quiet_of (kq _) | exact kq _))
      have c2 : Below w.heap.size w (World.drewN _ nq) := c1.trans ((below_drewN _ nq).mono c1.size)
      clear c1
      have c1 := c2
      clear c2
      go_wp2_with fail
      refine (works_any _ (HT.out.below c1)).mono ?_
      rintro e w106 ⟨rfl, b1⟩
      have c2 := c1.trans (b1.mono c1.size); clear c1 b1
      have c1 := c2; clear c2
      go_wp2_with fail
      go_ret
      exact ⟨rfl, c1⟩
  · have e2 : (a.toList == b.toList) = false := by rw [← e1]; rfl
    obtain ⟨ta, ta2⟩ : ((k : Int) == (a.size : Int)) = true ∧ (k == a.size) = true := by rcases hca with h | h; · omega
                                                                                         · exact h.2
    obtain ⟨tb, tb2⟩ : ((k : Int) == (b.size : Int)) = false ∧ (k == b.size) = false := by rcases hcb with h | h; · exact h.2
                                                                                           · omega
    have g1 : decide (y ≤ 0) = false ∨ (decide (y ≤ 0) = true ∧ decide (0 < z) = false ∧ decide (0 ≤ z) = false) := by
      rcases hyz with h | ⟨h, h', h''⟩ | h
      · exact Or.inl h
      · exact Or.inr ⟨h, h', h'' (by decide)⟩
      · simp at h
    clear e1 h1 h2 hyz hca hcb
    rcases g1 with g1 | ⟨g1, g2, g3⟩
    all_goals
      go_enter Tryd.func7, Tryd.ntmps7
      go_wp2_with fail
      refine (korder_is a b _ HX.out _).mono ?_
      rintro e w107 ⟨rfl, rfl⟩
      go_wp2_with fail
      refine (korder_is b c y HY.out _).mono ?_
      rintro e w108 ⟨rfl, rfl⟩
      go_wp2_with fail
      refine (korder_is a c z HZ.out _).mono ?_
      rintro e w109 ⟨rfl, rfl⟩
      go_wp2_with fail
      refine (korder_is b a _ HX2.out _).mono ?_
      rintro e w110 ⟨rfl, rfl⟩
      go_wp2_with fail
      refine (kcommon_is a b _ _ rfl HS.out.1 HS.out.2.1 HK.out _).mono ?_
      rintro e w111 ⟨rfl, b1⟩
      have c2 := c1.trans (b1.mono c1.size); clear c1 b1
      have c1 := c2; clear c2
      go_wp2_with fail
      go_quiet ((go_at_call 18; first | exact quiet_n (kq _) | exact Calls.quiet_of (kq _) | exact kq _))
      have c2 : Below w.heap.size w (World.drewN _ nq) := c1.trans ((below_drewN _ nq).mono c1.size)
      clear c1
      have c1 := c2
      clear c2
      go_wp2_with fail
      refine (works_any _ (HT.out.below c1)).mono ?_
      rintro e w112 ⟨rfl, b1⟩
      have c2 := c1.trans (b1.mono c1.size); clear c1 b1
      have c1 := c2; clear c2
      go_wp2_with fail
      go_ret
      exact ⟨rfl, c1⟩
  · have e2 : (a.toList == b.toList) = false := by rw [← e1]; rfl
    obtain ⟨ta, ta2⟩ : ((k : Int) == (a.size : Int)) = false ∧ (k == a.size) = false := by rcases hca with h | h; · exact h.2
                                                                                           · omega
    obtain ⟨tb, tb2⟩ : ((k : Int) == (b.size : Int)) = true ∧ (k == b.size) = true := by rcases hcb with h | h; · omega
                                                                                         · exact h.2
    clear e1 h1 h2 hyz hca hcb
    go_enter Tryd.func7, Tryd.ntmps7
    go_wp2_with fail
    refine (korder_is a b _ HX.out _).mono ?_
    rintro e w113 ⟨rfl, rfl⟩
    go_wp2_with fail
    refine (korder_is b c y HY.out _).mono ?_
    rintro e w114 ⟨rfl, rfl⟩
    go_wp2_with fail
    refine (korder_is a c z HZ.out _).mono ?_
    rintro e w115 ⟨rfl, rfl⟩
    go_wp2_with fail
    refine (korder_is b a _ HX2.out _).mono ?_
    rintro e w116 ⟨rfl, rfl⟩
    go_wp2_with fail
    refine (kcommon_is a b _ _ rfl HS.out.1 HS.out.2.1 HK.out _).mono ?_
    rintro e w117 ⟨rfl, b1⟩
    have c2 := c1.trans (b1.mono c1.size); clear c1 b1
    have c1 := c2; clear c2
    go_wp2_with fail
    go_quiet ((go_at_call 18; first | exact quiet_n (kq _) | exact Calls.quiet_of (kq _) | exact kq _))
    have c2 : Below w.heap.size w (World.drewN _ nq) := c1.trans ((below_drewN _ nq).mono c1.size)
    clear c1
    have c1 := c2
    clear c2
    go_wp2_with fail
    refine (works_any _ (HT.out.below c1)).mono ?_
    rintro e w118 ⟨rfl, b1⟩
    have c2 := c1.trans (b1.mono c1.size); clear c1 b1
    have c1 := c2; clear c2
    go_wp2_with fail
    go_ret
    exact ⟨rfl, c1⟩
  · obtain ⟨ka2, ta, ta2⟩ : k < a.size ∧ ((k : Int) == (a.size : Int)) = false ∧ (k == a.size) = false := hca.elim id (fun h => absurd h.1 h1)
    obtain ⟨kb2, tb, tb2⟩ : k < b.size ∧ ((k : Int) == (b.size : Int)) = false ∧ (k == b.size) = false := hcb.elim id (fun h => absurd h.1 h2)
    obtain ⟨p, hp⟩ : ∃ p, a.data.toList.getD k 0 = p := ⟨_, rfl⟩
    obtain ⟨q, hq⟩ : ∃ q, b.data.toList.getD k 0 = q := ⟨_, rfl⟩
    have i1 := run_str_at (P := Tryd.prog) a 9 Tryd.underlying9 .i64 (k : Int) k rfl ka2 p hp.symm
    have i2 := run_str_at (P := Tryd.prog) b 9 Tryd.underlying9 .i64 (k : Int) k rfl kb2 q hq.symm
    rw [hp, hq] at h3
    clear hp hq
    rcases h3 with ⟨rfl, h3⟩ | ⟨rfl, h3⟩
    · have e2 : (a.toList == b.toList) = false := by rw [← e1]; rfl
      have f1 : ((p.toNat : Int) != (q.toNat : Int)) = true := by rw [bne_iff_ne]; omega
      have f2 : decide ((p.toNat : Int) < (q.toNat : Int)) = true := by rw [decide_eq_true_iff]; omega
      have f3 : decide (p.toNat < q.toNat) = true := by rw [decide_eq_true_iff]; omega
      have f4 : (p.toNat != q.toNat) = true := by rw [bne_iff_ne]; omega
      have g1 : decide (y ≤ 0) = false ∨ (decide (y ≤ 0) = true ∧ decide (0 < z) = false ∧ decide (0 ≤ z) = false) := by
        rcases hyz with h | ⟨h, h', h''⟩ | h
        · exact Or.inl h
        · exact Or.inr ⟨h, h', h'' (by decide)⟩
        · simp at h
      clear e1 h1 h2 h3 hyz hca hcb
      rcases g1 with g1 | ⟨g1, g2, g3⟩
      all_goals
        go_enter Tryd.func7, Tryd.ntmps7
        go_wp2_with fail
        refine (korder_is a b _ HX.out _).mono ?_
        rintro e w119 ⟨rfl, rfl⟩
        go_wp2_with fail
        refine (korder_is b c y HY.out _).mono ?_
        rintro e w120 ⟨rfl, rfl⟩
        go_wp2_with fail
        refine (korder_is a c z HZ.out _).mono ?_
        rintro e w121 ⟨rfl, rfl⟩
        go_wp2_with fail
        refine (korder_is b a _ HX2.out _).mono ?_
        rintro e w122 ⟨rfl, rfl⟩
        go_wp2_with fail
        refine (kcommon_is a b _ _ rfl HS.out.1 HS.out.2.1 HK.out _).mono ?_
        rintro e w123 ⟨rfl, b1⟩
        have c2 := c1.trans (b1.mono c1.size); clear c1 b1
        have c1 := c2; clear c2
        go_wp2_with fail
        go_quiet ((go_at_call 18; first | exact quiet_n (kq _) | exact Calls.quiet_of (kq _) | exact kq _))
        have c2 : Below w.heap.size w (World.drewN _ nq) := c1.trans ((below_drewN _ nq).mono c1.size)
        clear c1
        have c1 := c2
        clear c2
        go_wp2_with fail
        go_still_tail 20, (by kernel_rfl)
        go_wp2_with fail
        refine (works_any _ (HT.out.below c1.drew)).mono ?_
        rintro e w9 ⟨rfl, b1⟩
        have c2 := c1.drew.trans (b1.mono c1.drew.size)
        go_wp2_with fail
        go_ret
        exact ⟨rfl, c2⟩
    · have e2 : (a.toList == b.toList) = false := by rw [← e1]; rfl
      have f1 : ((p.toNat : Int) != (q.toNat : Int)) = true := by rw [bne_iff_ne]; omega
      have f2 : decide ((p.toNat : Int) < (q.toNat : Int)) = false := by rw [decide_eq_false_iff_not]; omega
      have f3 : decide (p.toNat < q.toNat) = false := by rw [decide_eq_false_iff_not]; omega
      have f4 : (p.toNat != q.toNat) = true := by rw [bne_iff_ne]; omega
      clear e1 h1 h2 h3 hyz hca hcb
      go_enter Tryd.func7, Tryd.ntmps7
      go_wp2_with fail
      refine (korder_is a b _ HX.out _).mono ?_
      rintro e w124 ⟨rfl, rfl⟩
      go_wp2_with fail
      refine (korder_is b c y HY.out _).mono ?_
      rintro e w125 ⟨rfl, rfl⟩
      go_wp2_with fail
      refine (korder_is a c z HZ.out _).mono ?_
      rintro e w126 ⟨rfl, rfl⟩
      go_wp2_with fail
      refine (korder_is b a _ HX2.out _).mono ?_
      rintro e w127 ⟨rfl, rfl⟩
      go_wp2_with fail
      refine (kcommon_is a b _ _ rfl HS.out.1 HS.out.2.1 HK.out _).mono ?_
      rintro e w128 ⟨rfl, b1⟩
      have c2 := c1.trans (b1.mono c1.size); clear c1 b1
      have c1 := c2; clear c2
      go_wp2_with fail
      go_quiet ((go_at_call 18; first | exact quiet_n (kq _) | exact Calls.quiet_of (kq _) | exact kq _))
      have c2 : Below w.heap.size w (World.drewN _ nq) := c1.trans ((below_drewN _ nq).mono c1.size)
      clear c1
      have c1 := c2
      clear c2
      go_wp2_with fail
      go_still_tail 20, (by kernel_rfl)
      go_wp2_with fail
      refine (works_any _ (HT.out.below c1.drew)).mono ?_
      rintro e w9 ⟨rfl, b1⟩
      have c2 := c1.drew.trans (b1.mono c1.drew.size)
      go_wp2_with fail
      go_ret
      exact ⟨rfl, c2⟩

theorem walkKeyTotal (a : ByteArray) (ha : a.size ≤ maxLen) (b : ByteArray) (hb : b.size ≤ maxLen) (c : ByteArray) (hc : c.size ≤ maxLen) (w : World) (ht : Tab w) :
    Calls Tryd.prog 7 #[.string a, .string b, .string c] w fun e w' => e = .returned (.bool true) ∧ Below w.heap.size w w' := by
  have HT := Lib.hid ht; clear ht ha hb hc
  have c1 := Below.refl w.heap.size w
  by_cases h1 : 200 < a.size ∨ 200 < b.size ∨ 200 < c.size
  · have hd : decide ((200 : Int) < (a.size : Int)) = true ∨ (decide ((200 : Int) < (a.size : Int)) = false ∧ decide ((200 : Int) < (b.size : Int)) = true) ∨ (decide ((200 : Int) < (a.size : Int)) = false ∧ decide ((200 : Int) < (b.size : Int)) = false ∧ decide ((200 : Int) < (c.size : Int)) = true) := by
      by_cases h2 : 200 < a.size
      · exact Or.inl (by rw [decide_eq_true_iff]; omega)
      · by_cases h3 : 200 < b.size
        · exact Or.inr (Or.inl ⟨by rw [decide_eq_false_iff_not]; omega, by rw [decide_eq_true_iff]; omega⟩)
        · exact Or.inr (Or.inr ⟨by rw [decide_eq_false_iff_not]; omega, by rw [decide_eq_false_iff_not]; omega, by rw [decide_eq_true_iff]; omega⟩)
    clear h1
    rcases hd with d1 | ⟨d1, d2⟩ | ⟨d1, d2, d3⟩
    all_goals
      go_enter Tryd.func7, Tryd.ntmps7
      go_wp2_with fail
      refine (works_any _ (HT.out.below c1)).mono ?_
      rintro e w129 ⟨rfl, b1⟩
      have c2 := c1.trans (b1.mono c1.size); clear c1 b1
      have c1 := c2; clear c2
      go_wp2_with fail
      go_ret
      exact ⟨rfl, c1⟩
  · have la : a.size ≤ 200 := by omega
    have lb : b.size ≤ 200 := by omega
    have lc : c.size ≤ 200 := by omega
    obtain ⟨k1, k2, k3, k4⟩ := common_spec a.data.toList b.data.toList
    have ho := order_is a.data.toList b.data.toList
    have hla : a.data.toList.length = a.size := str_len a
    have hlb : b.data.toList.length = b.size := str_len b
    have ht := cmp_trans a.data.toList b.data.toList c.data.toList
    have hr := cmp_range a.data.toList b.data.toList
    have hsw := cmp_swap a.data.toList b.data.toList
    have hz0 := cmp_zero a.data.toList b.data.toList
    have hx := (rfl : Lib.compareBytes a.data.toList b.data.toList = _)
    refine total_on a b c _ _ _ _ w HT la lb lc (Lib.hid rfl) (Lib.hid rfl) (Lib.hid rfl) (Lib.hid hsw) (Lib.hid rfl) (by omega) (by omega) ?_ (by omega) (by omega) ?_ ?_ ?_
    · rw [ByteArray.toList_eq, ByteArray.toList_eq, str_ext, str_ext, beq_iff_eq]
      show a.data.toList.take _ = b.data.toList.take _
      apply List.ext_getElem?
      intro i
      rw [List.getElem?_take, List.getElem?_take]
      split
      · rename_i hi
        have := k3 i hi
        rw [List.getD, List.getD, List.getElem?_eq_getElem (by omega), List.getElem?_eq_getElem (by omega)] at this
        rw [List.getElem?_eq_getElem (by omega), List.getElem?_eq_getElem (by omega)]
        exact congrArg some this
      · rfl
    · rw [ByteArray.toList_eq, ByteArray.toList_eq, Bool.eq_iff_iff, beq_iff_eq, beq_iff_eq]
      exact hz0
    · rcases Int.lt_or_le 0 (Lib.compareBytes b.data.toList c.data.toList) with h | h
      · exact Or.inl (by rw [decide_eq_false_iff_not]; omega)
      · rcases Int.lt_or_le 0 (Lib.compareBytes a.data.toList b.data.toList) with h' | h'
        · exact Or.inr (Or.inr (by rw [decide_eq_false_iff_not]; omega))
        · obtain ⟨q1, q2⟩ := ht h' h
          refine Or.inr (Or.inl ⟨by rw [decide_eq_true_iff]; exact h, by rw [decide_eq_false_iff_not]; omega, fun h'' => ?_⟩)
          rw [decide_eq_true_iff] at h''
          have := q2 (Or.inl h'')
          rw [decide_eq_false_iff_not]; omega
    · rw [hla, hlb] at ho
      rw [hla] at k1
      rw [hlb] at k2
      by_cases g1 : commonL a.data.toList b.data.toList = a.size
      · by_cases g2 : commonL a.data.toList b.data.toList = b.size
        · rw [if_pos ⟨g1, g2⟩] at ho
          exact Or.inl ⟨ho, g1, g2⟩
        · rw [if_neg (fun h => g2 h.2), if_pos (Or.inl g1)] at ho
          exact Or.inr (Or.inl ⟨ho, g1, g2⟩)
      · by_cases g2 : commonL a.data.toList b.data.toList = b.size
        · rw [if_neg (fun h => g1 h.1), if_neg (by omega)] at ho
          exact Or.inr (Or.inr (Or.inl ⟨ho, g1, g2⟩))
        · refine Or.inr (Or.inr (Or.inr ⟨g1, g2, ?_⟩))
          by_cases h4 : (a.data.toList.getD (commonL a.data.toList b.data.toList) 0).toNat < (b.data.toList.getD (commonL a.data.toList b.data.toList) 0).toNat
          · rw [if_neg (fun h => g1 h.1), if_pos (Or.inr ⟨by omega, h4⟩)] at ho
            exact Or.inl ⟨ho, h4⟩
          · rw [if_neg (fun h => g1 h.1), if_neg (fun h => h.elim (fun h => g1 h) (fun h => h4 h.2))] at ho
            refine Or.inr ⟨ho, ?_⟩
            rcases k4 with h | h | h
            · omega
            · omega
            · have : (a.data.toList.getD (commonL a.data.toList b.data.toList) 0).toNat ≠ (b.data.toList.getD (commonL a.data.toList b.data.toList) 0).toNat := fun he => h (UInt8.toNat_inj.1 he)
              omega
end Go.Proofs.YthmbcjladgnigaaDoor
