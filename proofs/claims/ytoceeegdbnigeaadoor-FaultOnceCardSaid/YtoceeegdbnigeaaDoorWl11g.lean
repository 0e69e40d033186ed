/-
  FaultOnce: the walk.
  Conditions: the library's tables and variables lie in the world.
-/
import Derived.Test.YtoceeegdbnigeaaDoorWl11a
import Derived.Test.YtoceeegdbnigeaaDoorMade11
import Derived.Test.YtoceeegdbnigeaaDoorSame11
import Derived.Test.YtoceeegdbnigeaaDoorLit11
import Derived.Test.YtoceeegdbnigeaaDoorTimS11
import Derived.Deep.CutRange
import Derived.BigRegion
import Derived.Deep.RegionWith
set_option linter.unusedVariables false
namespace Go.Proofs.YtoceeegdbnigeaaDoor
open Go Go.RowKit

set_option maxRecDepth 100000 in
set_option maxHeartbeats 8000000 in
theorem walkFaultOnce (a0 : Int) (ws0 : (Lit.int .u16 a0).wf = true) (d : Bool) (v : Value) (L : List Nat) (a3 : Int) (ws3 : (Lit.int .u16 a3).wf = true) (m : Int) (w : World) (hv : U16At w v L) (ht : Tab w) (he : Errs w) (hm : w.cell? ⟨0, 0, none⟩ = some (.int .i64 m)) :
    Calls Tryd.prog 6 #[.int .u16 a0, .bool d, v, .int .u16 a3] w fun e w' => e = .returned (.bool true) ∧ Below w.heap.size w w' := by
  have HT := Lib.hid ht
  have HE := Lib.hid he
  have HM := Lib.hid hm
  have h0 := lit_u16 ws0
  have h3 := lit_u16 ws3
  clear ht he hm ws0 ws3
  obtain ⟨A, hA⟩ : ∃ A, a0 % 301 = A := ⟨_, rfl⟩
  have hA0 : 0 ≤ A ∧ A ≤ 300 := by omega
  have x1 : a0.tmod 301 = A := by rw [Int.tmod_eq_emod_of_nonneg h0.1]; exact hA
  have x2 : IntKind.u16.wrap A = A := by rw [IntKind.wrap_u16]; omega
  have x3 : IntKind.u32.wrap A = A := by rw [IntKind.wrap_u32]; omega
  obtain ⟨T, hT⟩ : ∃ T : Nat, a3 % 400 = (T : Int) := ⟨(a3 % 400).toNat, by omega⟩
  have hT4 : T ≤ 400 := by omega
  have x4 : a3.tmod 400 = (T : Int) := by rw [Int.tmod_eq_emod_of_nonneg h3.1]; exact hT
  have x5 : IntKind.u16.wrap (T : Int) = (T : Int) := by rw [IntKind.wrap_u16]; omega
  have x6 : IntKind.i64.wrap (T : Int) = (T : Int) := IntWalk.i64_in _ (by omega)
  have hok := made_ok hA0.1 L
  have hmA : madeA A = A := by unfold madeA; omega
  have hmm := made_any A ⟨hA0.1, by omega⟩ d v L w hv
  rw [hmA] at hok hmm
  have HM0 := Lib.hid hmm
  obtain ⟨K, hK⟩ : ∃ K, madeL L = K := ⟨_, rfl⟩
  rw [hK] at hok HM0
  have hk34 := (planOK_parts hok).2.2.2.1
  have HKl := Lib.hid hk34
  have HOK := Lib.hid hok
  obtain ⟨n, hn⟩ : ∃ n, K.length = n := ⟨_, rfl⟩
  have HNn := Lib.hid hn
  clear hv h0 h3 hA hT hok hmA hmm hK hk34
  go_enter Tryd.func6, Tryd.ntmps6
  go_wp2_with fail
  refine HM0.out.mono ?_
  rintro y w1 ⟨p, c, rfl, hi, b1⟩
  rw [hn] at hi ⊢
  clear hn
  have a2 := (Below.refl w1.heap.size w1).alloc (Nat.le_refl _) (.cells #[.int .i64 A, .bool d, .slice p n c] 24)
  have HP := Lib.hid (planAt_new w1 A d (.slice p n c) 24)
  have c1 := b1.trans (a2.mono b1.size)
  have HN := Lib.hid (IntsAt.below (IntsNew.at hi) a2)
  clear hi a2 b1
  obtain ⟨P, hP⟩ : ∃ P, w1.heap.size = P := ⟨_, rfl⟩
  have HPl : Hid (P < (w1.alloc (.cells #[.int .i64 A, .bool d, .slice p n c] 24)).heap.size) := by rw [← hP]; show _ < _; simp
  rw [hP] at HP
  go_wp2_with fail
  refine (new_any _).mono ?_
  rintro y w3 ⟨rfl, rfl⟩
  generalize (w1.alloc (.cells #[.int .i64 A, .bool d, .slice p n c] 24)) = w2 at *
  clear hP
  have b3 : Below w2.heap.size w2 (w2.alloc (.cells #[.bool true, .pointer none] 63)) := (Below.refl _ _).alloc (Nat.le_refl _) _
  have HTa := Lib.hid (TimAt.new w2 true none 63)
  obtain ⟨k0, k1, k2⟩ := HP.out
  replace k0 := cell_kept k0 b3
  replace k1 := cell_kept k1 b3
  replace k2 := cell_kept k2 b3
  have HB2 := Lib.hid c1
  go_wp2_with fail
  refine (arm_S w2.heap.size none A d _ K _ HTa.out (HN.out.below b3) HOK.out).mono ?_
  rintro y w4 ⟨rfl, hk, hts⟩
  have b4 : Below w2.heap.size w2 w4 := below_kept b3 hk (Nat.le_refl _) b3.size
  have HTS := Lib.hid hts
  clear hts hk k0 k1 k2 b3 HTa c1
  go_wp2_with fail
  go_loopw [11] (fun vi wr => ∃ k : Nat, 1 ≤ k ∧ k ≤ T + 1 ∧ vi = .int .i64 k ∧ Hid (TimS wr w2.heap.size (A - (k : Int) + 1) d K) ∧ Below w2.heap.size w2 wr) (fun vi _ => T + 1 - (intOf vi).toNat)
  case atStart =>
    refine ⟨1, by omega, by omega, rfl, ?_, b4⟩
    have h := HTS.out
    rw [show A = A - ((1 : Nat) : Int) + 1 by omega] at h
    exact h
  case round =>
    clear HTS b4
    obtain ⟨k, hk1, hkT, rfl, hS, b4⟩ := hrel
    obtain ⟨k0, k1, k2⟩ := HP.out
    replace k0 := cell_kept k0 b4
    replace k1 := cell_kept k1 b4
    replace k2 := cell_kept k2 b4
    have hBl := hS.out.lt
    by_cases hlt : k ≤ T
    · have d1 : decide ((k : Int) ≤ (T : Int)) = true := by rw [decide_eq_true_iff]; omega
      have d1n : decide (k ≤ T) = true := by rw [decide_eq_true_iff]; omega
      obtain ⟨R, hR⟩ : ∃ R, A - (k : Int) + 1 = R := ⟨_, rfl⟩
      have y1 : IntKind.i64.wrap (A - (k : Int)) = A - (k : Int) := IntWalk.i64_in _ (by omega)
      have y2 : IntKind.i64.wrap (A - (k : Int) + 1) = R := by rw [hR]; exact IntWalk.i64_in _ (by omega)
      have hnext : A - ((k + 1 : Nat) : Int) + 1 = R - 1 := by omega
      have hRk : decide (R = 1) = ((k : Int) == A) := by
        by_cases h : (k : Int) = A
        · rw [h, decide_eq_true (by omega)]; exact (beq_self_eq_true _).symm
        · rw [decide_eq_false (by omega)]; exact (beq_false_of_ne h).symm
      rw [hR] at hS
      have HNX := Lib.hid hnext
      have HRK := Lib.hid hRk
      clear hR hnext hRk
      by_cases hR1 : 1 ≤ R
      · have e1 : decide (1 ≤ R) = true := by rw [decide_eq_true_iff]; exact hR1
        have HR1 := Lib.hid hR1
        clear hR1
        go_wp2_with fail
        refine (plan_S1 w2.heap.size R d K _ hS.out HR1.out HKl.out).mono ?_
        rintro y w5 ⟨q, c5, rfl, hn5, b5⟩
        rw [HNn.out] at hn5 ⊢
        replace k0 := cell_kept k0 b5
        replace k1 := cell_kept k1 b5
        replace k2 := cell_kept k2 b5
        have b6 := b4.trans (b5.mono b4.size)
        have HS5 := Lib.hid (hS.out.below b5)
        clear b4 b5 hS
        have a5 := (Below.refl w5.heap.size w5).alloc (Nat.le_refl _) (.cells #[.int .i64 R, .bool d, .slice q n c5] 24)
        have hs5 : (w5.alloc (.cells #[.int .i64 R, .bool d, .slice q n c5] 24)).heap.size = w5.heap.size + 1 := by simp
        have a6 := (Below.refl (w5.alloc (.cells #[.int .i64 R, .bool d, .slice q n c5] 24)).heap.size (w5.alloc (.cells #[.int .i64 R, .bool d, .slice q n c5] 24))).alloc (Nat.le_refl _) (.cells #[.int .i64 A, .bool d, .slice p n c] 24)
        have a7 := (Below.refl (w5.alloc (.cells #[.int .i64 R, .bool d, .slice q n c5] 24)).heap.size (w5.alloc (.cells #[.int .i64 R, .bool d, .slice q n c5] 24))).alloc (Nat.le_refl _) (.cells #[.int .i64 R, .bool d, .slice p n c] 24)
        have g0 := cell_kept (cell_kept k0 a5) a6
        have k0 := cell_kept k0 a5
        have k1 := cell_kept k1 a5
        have k2 := cell_kept k2 a5
        have j0 := cell_kept k0 a7
        obtain ⟨q0, q1, q2⟩ := planAt_new w5 R d (.slice q n c5) 24
        replace q0 := cell_kept q0 a7
        replace q1 := cell_kept q1 a7
        replace q2 := cell_kept q2 a7
        have hr := planAt_new (w5.alloc (.cells #[.int .i64 R, .bool d, .slice q n c5] 24)) R d (.slice p n c) 24
        have hrA := planAt_new (w5.alloc (.cells #[.int .i64 R, .bool d, .slice q n c5] 24)) A d (.slice p n c) 24
        rw [hs5] at hr hrA
        obtain ⟨r0, r1, r2⟩ := hr
        obtain ⟨s0, s1, s2⟩ := hrA
        have b8 := (b6.alloc b6.size (.cells #[.int .i64 R, .bool d, .slice q n c5] 24)).trans (a7.mono (Nat.le_trans b6.size a5.size))
        have HS8 := Lib.hid ((HS5.out.below a5).below a7)
        have HNp := Lib.hid (HN.out.below b8)
        clear a5 a6 hs5 b6 HS5
        have HNq := Lib.hid (((IntsNew.at hn5).below ((Below.refl w5.heap.size w5).alloc (Nat.le_refl _) (.cells #[.int .i64 R, .bool d, .slice q n c5] 24))).below a7)
        clear a7 hn5
        go_wp2_with fail
        refine (same2_any R d _ K R d _ K _ HNq.out HNp.out (by have := HKl.out; omega) (by have := HKl.out; omega)).mono ?_
        rw [sameB_self]
        rintro y w9 ⟨rfl, b1⟩
        replace j0 := cell_kept j0 b1
        have HS9 := Lib.hid (HS8.out.below b1)
        have b9 := b8.trans (b1.mono b8.size)
        clear b1 b8 HS8 g0 k0 k1 k2 q0 q1 q2 r0 r1 r2 s0 s1 s2
        go_wp2_with fail
        generalize w9 = wz at *
        go_cut [75] from 69 to 75 (fun b wx => b = .bool false ∧ Hid (TimS wx w2.heap.size (R - 1) d K) ∧ Below w2.heap.size w2 wx)
        case first =>
          have jd : wz.drew.cell? ⟨P, 0, none⟩ = some (.int .i64 A) := j0
          have HSd : Hid (TimS wz.drew w2.heap.size R d K) := HS9.out
          have bd := b9.drew
          have hkA : decide (R = 1) = ((k : Int) == A) := HRK.out
          go_region_with (go_at_call 29; refine (tick_S w2.heap.size R d K _ HSd.out).mono ?_; rw [hkA]; rintro y wk ⟨rfl, hts, btk⟩; have jk : wk.cell? ⟨P, 0, none⟩ = some (.int .i64 A) := (by rw [btk.cell HPl.out]; exact jd))
          all_goals (go_wp2_with fail; go_meet; exact ⟨by simp, hts, bd.trans btk⟩)
        case rest =>
          obtain ⟨rfl, hts, b4⟩ := hcut
          go_wp2_with fail
          go_roundw
          case rel => exact ⟨k + 1, by omega, by omega, by go_num, by show TimS _ _ _ _ _; rw [HNX.out]; exact hts.out, b4⟩
          case measure => simp [intOf]; omega
      · have e1 : decide (1 ≤ R) = false := by rw [decide_eq_false_iff_not]; exact hR1
        have HR1 : Hid (R ≤ 0) := by show R ≤ 0; omega
        clear hR1
        go_wp2_with fail
        refine (plan_S0 w2.heap.size R d K _ hS.out HR1.out).mono ?_
        rintro y w5 ⟨rfl, b5⟩
        replace k0 := cell_kept k0 b5
        replace k1 := cell_kept k1 b5
        replace k2 := cell_kept k2 b5
        have b6 := b4.trans (b5.mono b4.size)
        have HS5 := Lib.hid (hS.out.below b5)
        clear b4 b5 hS
        have a5 := (Below.refl w5.heap.size w5).alloc (Nat.le_refl _) (.cells #[.int .i64 0, .bool false, .slice none 0 0] 24)
        have hs5 : (w5.alloc (.cells #[.int .i64 0, .bool false, .slice none 0 0] 24)).heap.size = w5.heap.size + 1 := by simp
        have a6 := (Below.refl (w5.alloc (.cells #[.int .i64 0, .bool false, .slice none 0 0] 24)).heap.size (w5.alloc (.cells #[.int .i64 0, .bool false, .slice none 0 0] 24))).alloc (Nat.le_refl _) (.cells #[.int .i64 A, .bool d, .slice p n c] 24)
        have a7 := (Below.refl (w5.alloc (.cells #[.int .i64 0, .bool false, .slice none 0 0] 24)).heap.size (w5.alloc (.cells #[.int .i64 0, .bool false, .slice none 0 0] 24))).alloc (Nat.le_refl _) (.cells #[.int .i64 R, .bool d, .slice p n c] 24)
        have g0 := cell_kept (cell_kept k0 a5) a6
        have k0 := cell_kept k0 a5
        have k1 := cell_kept k1 a5
        have k2 := cell_kept k2 a5
        have j0 := cell_kept k0 a7
        obtain ⟨q0, q1, q2⟩ := planAt_new w5 0 false (.slice none 0 0) 24
        replace q0 := cell_kept q0 a7
        replace q1 := cell_kept q1 a7
        replace q2 := cell_kept q2 a7
        have hr := planAt_new (w5.alloc (.cells #[.int .i64 0, .bool false, .slice none 0 0] 24)) R d (.slice p n c) 24
        have hrA := planAt_new (w5.alloc (.cells #[.int .i64 0, .bool false, .slice none 0 0] 24)) A d (.slice p n c) 24
        rw [hs5] at hr hrA
        obtain ⟨r0, r1, r2⟩ := hr
        obtain ⟨s0, s1, s2⟩ := hrA
        have b8 := (b6.alloc b6.size (.cells #[.int .i64 0, .bool false, .slice none 0 0] 24)).trans (a7.mono (Nat.le_trans b6.size a5.size))
        have HS8 := Lib.hid ((HS5.out.below a5).below a7)
        have HNp := Lib.hid (HN.out.below b8)
        clear a5 a6 hs5 b6 HS5
        clear a7
        go_wp2_with fail
        refine (same2_any 0 false _ [] 0 false _ [] _ (IntsAt.nil _ _ _) (IntsAt.nil _ _ _) (by decide) (by decide)).mono ?_
        rw [sameB_self]
        rintro y w9 ⟨rfl, b1⟩
        replace j0 := cell_kept j0 b1
        have HS9 := Lib.hid (HS8.out.below b1)
        have b9 := b8.trans (b1.mono b8.size)
        clear b1 b8 HS8 g0 k0 k1 k2 q0 q1 q2 r0 r1 r2 s0 s1 s2
        go_wp2_with fail
        generalize w9 = wz at *
        go_cut [75] from 69 to 75 (fun b wx => b = .bool false ∧ Hid (TimS wx w2.heap.size (R - 1) d K) ∧ Below w2.heap.size w2 wx)
        case first =>
          have jd : wz.drew.cell? ⟨P, 0, none⟩ = some (.int .i64 A) := j0
          have HSd : Hid (TimS wz.drew w2.heap.size R d K) := HS9.out
          have bd := b9.drew
          have hkA : decide (R = 1) = ((k : Int) == A) := HRK.out
          go_region_with (go_at_call 29; refine (tick_S w2.heap.size R d K _ HSd.out).mono ?_; rw [hkA]; rintro y wk ⟨rfl, hts, btk⟩; have jk : wk.cell? ⟨P, 0, none⟩ = some (.int .i64 A) := (by rw [btk.cell HPl.out]; exact jd))
          all_goals (go_wp2_with fail; go_meet; exact ⟨by simp, hts, bd.trans btk⟩)
        case rest =>
          obtain ⟨rfl, hts, b4⟩ := hcut
          go_wp2_with fail
          go_roundw
          case rel => exact ⟨k + 1, by omega, by omega, by go_num, by show TimS _ _ _ _ _; rw [HNX.out]; exact hts.out, b4⟩
          case measure => simp [intOf]; omega
    · obtain rfl : k = T + 1 := by omega
      have d1 : decide (((T + 1 : Nat) : Int) ≤ (T : Int)) = false := by rw [decide_eq_false_iff_not]; omega
      have c9 := HB2.out.trans (b4.mono HB2.out.size)
      clear hS hlt k0 k1 k2 b4
      go_wp2_with fail
      refine (works_any m _ (HT.out.below c9) (HE.out.below c9) (cell_kept HM.out c9)).mono ?_
      rintro y w8 ⟨rfl, b1⟩
      have c3 := c9.trans (b1.mono c9.size)
      clear c9 b1
      go_wp2_with fail
      go_ret
      exact ⟨rfl, c3⟩
end Go.Proofs.YtoceeegdbnigeaaDoor
