/-
  FaultKeeps: the walk.
  Conditions: the library's tables and variables lie in the world.
-/
import Derived.Test.YtoceeegdbnigeaaDoorWl11a
import Derived.Test.YtoceeegdbnigeaaDoorMade11
import Derived.Deep.RegionHeld3
set_option linter.unusedVariables false
namespace Go.Proofs.YtoceeegdbnigeaaDoor
open Go Go.RowKit

theorem lit_u16 {a : Int} (h : (Lit.int .u16 a).wf = true) : 0 ≤ a ∧ a < 65536 := by
  have e1 : IntKind.u16.min = 0 := rfl
  have e2 : IntKind.u16.max = 65535 := rfl
  have := h
  simp [Lit.wf, e1, e2] at this
  omega
theorem lit_u32 {a : Int} (h : (Lit.int .u32 a).wf = true) : 0 ≤ a ∧ a < 4294967296 := by
  have e1 : IntKind.u32.min = 0 := rfl
  have e2 : IntKind.u32.max = 4294967295 := rfl
  have := h
  simp [Lit.wf, e1, e2] at this
  omega
set_option maxRecDepth 100000 in
set_option maxHeartbeats 8000000 in
theorem walkFaultKeeps (a0 : Int) (ws0 : (Lit.int .u32 a0).wf = true) (v : Value) (L : List Nat) (a2 : Int) (ws2 : (Lit.int .u16 a2).wf = true) (a3 : Int) (ws3 : (Lit.int .u16 a3).wf = true) (m : Int) (w : World) (hv : U16At w v L) (ht : Tab w) (he : Errs w) (hm : w.cell? ⟨0, 0, none⟩ = some (.int .i64 m)) :
    Calls Tryd.prog 5 #[.int .u32 a0, v, .int .u16 a2, .int .u16 a3] w fun e w' => e = .returned (.bool true) ∧ Below w.heap.size w w' := by
  have HT := Lib.hid ht
  have HE := Lib.hid he
  have HM := Lib.hid hm
  have h0 := lit_u32 ws0
  obtain ⟨s, rfl⟩ : ∃ s : Nat, a2 = (s : Int) := ⟨a2.toNat, by have := lit_u16 ws2; omega⟩
  obtain ⟨u, rfl⟩ : ∃ u : Nat, a3 = (u : Int) := ⟨a3.toNat, by have := lit_u16 ws3; omega⟩
  have hs6 : s < 65536 := by have := lit_u16 ws2; omega
  have hu6 : u < 65536 := by have := lit_u16 ws3; omega
  clear ht he hm ws0 ws2 ws3
  have HOK := Lib.hid (made_ok h0.1 L)
  obtain ⟨hl1, hl2, hl3⟩ := madeL_facts L
  have HM0 := Lib.hid (made_any a0 h0 false v L w hv)
  obtain ⟨A, hA⟩ : ∃ A, madeA a0 = A := ⟨_, rfl⟩
  obtain ⟨K, hK⟩ : ∃ K, madeL L = K := ⟨_, rfl⟩
  rw [hA, hK] at HOK HM0
  rw [hK] at hl1 hl2 hl3
  obtain ⟨n, hn⟩ : ∃ n, K.length = n := ⟨_, rfl⟩
  obtain ⟨j, hj⟩ : ∃ j, s % n = j := ⟨_, rfl⟩
  have hjn : j < n := by rw [← hj]; exact Nat.mod_lt _ (by omega)
  obtain ⟨x, hx⟩ : ∃ x, K.getD j 0 = x := ⟨_, rfl⟩
  have hx8 : 0 ≤ x ∧ x ≤ 8192 := by
    rw [← hx, List.getD, List.getElem?_eq_getElem (by omega)]
    exact hl3 _ (List.getElem_mem (by omega))
  obtain ⟨r, hr⟩ : ∃ r, min (u : Int) x = r := ⟨_, rfl⟩
  -- what the calls return
  have K1 : Hid (∀ v w, IntsAt w v K → Calls Tryd.prog 17 #[planV A false v, .int .i64 (s : Int), .int .i64 (u : Int)] w fun e w' => e = .returned (.tuple #[.int .i64 r, .int .i64 0]) ∧ Below w.heap.size w w') := fun v w hv => fkeep_good A false v K s u r 0 w hv HOK.out (Or.inr (Or.inr ⟨by omega, by omega, by rw [Int.toNat_natCast, hn, hj, hx, hr], rfl⟩))
  have K2 : Hid (∀ v w, IntsAt w v K → Calls Tryd.prog 17 #[planV A false v, .int .i64 ((s : Int) + (n : Int)), .int .i64 (u : Int)] w fun e w' => e = .returned (.tuple #[.int .i64 r, .int .i64 0]) ∧ Below w.heap.size w w') := fun v w hv => fkeep_good A false v K ((s : Int) + (n : Int)) u r 0 w hv HOK.out (Or.inr (Or.inr ⟨by omega, by omega, by rw [show ((s : Int) + (n : Int)).toNat = s + n by omega, hn, Nat.add_mod_right, hj, hx, hr], rfl⟩))
  have K3 : Hid (∀ v w, IntsAt w v K → Calls Tryd.prog 17 #[planV A false v, .int .i64 (j : Int), .int .i64 (u : Int)] w fun e w' => e = .returned (.tuple #[.int .i64 r, .int .i64 0]) ∧ Below w.heap.size w w') := fun v w hv => fkeep_good A false v K j u r 0 w hv HOK.out (Or.inr (Or.inr ⟨by omega, by omega, by rw [Int.toNat_natCast, hn, Nat.mod_eq_of_lt hjn, hx, hr], rfl⟩))
  have K4 : Hid (∀ v w, IntsAt w v K → Calls Tryd.prog 17 #[planV A false v, .int .i64 (s : Int), .int .i64 8192] w fun e w' => e = .returned (.tuple #[.int .i64 x, .int .i64 0]) ∧ Below w.heap.size w w') := fun v w hv => fkeep_good A false v K s 8192 x 0 w hv HOK.out (Or.inr (Or.inr ⟨by omega, by omega, by rw [Int.toNat_natCast, hn, hj, hx]; omega, rfl⟩))
  have K5 : Hid (∀ v w, IntsAt w v K → Calls Tryd.prog 17 #[planV A false v, .int .i64 (s : Int), .int .i64 0] w fun e w' => e = .returned (.tuple #[.int .i64 0, .int .i64 0]) ∧ Below w.heap.size w w') := fun v w hv => fkeep_good A false v K s 0 0 0 w hv HOK.out (Or.inr (Or.inr ⟨by omega, by omega, by rw [Int.toNat_natCast, hn, hj, hx]; omega, rfl⟩))
  have K6 : Hid (∀ v w, IntsAt w v K → Calls Tryd.prog 17 #[planV A false v, .int .i64 (-1 - (s : Int)), .int .i64 (u : Int)] w fun e w' => e = .returned (.tuple #[.int .i64 0, .int .i64 3]) ∧ Below w.heap.size w w') := fun v w hv => fkeep_good A false v K (-1 - (s : Int)) u 0 3 w hv HOK.out (Or.inr (Or.inl ⟨by omega, by omega, rfl, rfl⟩))
  have K7 : Hid (∀ v w, IntsAt w v K → Calls Tryd.prog 17 #[planV A false v, .int .i64 (s : Int), .int .i64 (-1 - (u : Int))] w fun e w' => e = .returned (.tuple #[.int .i64 0, .int .i64 2]) ∧ Below w.heap.size w w') := fun v w hv => fkeep_good A false v K s (-1 - (u : Int)) 0 2 w hv HOK.out (Or.inl ⟨by omega, rfl, rfl⟩)
  have K8 : Hid (∀ v w, IntsAt w v K → Calls Tryd.prog 17 #[planV A false v, .int .i64 (-1), .int .i64 (-1)] w fun e w' => e = .returned (.tuple #[.int .i64 0, .int .i64 2]) ∧ Below w.heap.size w w') := fun v w hv => fkeep_good A false v K (-1) (-1) 0 2 w hv HOK.out (Or.inl ⟨by omega, rfl, rfl⟩)
  have y1 : IntKind.i64.wrap (s : Int) = (s : Int) := IntWalk.i64_in _ (by omega)
  have y2 : IntKind.i64.wrap (u : Int) = (u : Int) := IntWalk.i64_in _ (by omega)
  have y3 : IntKind.i64.wrap ((s : Int) + (n : Int)) = (s : Int) + (n : Int) := IntWalk.i64_in _ (by omega)
  have y4 : IntKind.i64.wrap (-1 - (s : Int)) = -1 - (s : Int) := IntWalk.i64_in _ (by omega)
  have y5 : IntKind.i64.wrap (-1 - (u : Int)) = -1 - (u : Int) := IntWalk.i64_in _ (by omega)
  have y6 : (s : Int).tmod (n : Int) = (j : Int) := by rw [Int.tmod_eq_emod_of_nonneg (by omega), ← hj]; rfl
  have y7 : (s : Int) % (n : Int) = (j : Int) := by rw [← hj]; rfl
  have y8 : IntKind.i64.wrap (j : Int) = (j : Int) := IntWalk.i64_in _ (by omega)
  have hne : ((n : Int) == 0) = false := by rw [beq_eq_false_iff_ne]; omega
  have hne2 : ¬ ((n : Int) = 0) := by omega
  have hne3 : ¬ (n = 0) := by omega
  have HX := Lib.hid hx
  have HR := Lib.hid hr
  have HNn := Lib.hid hn
  have hn34 : n ≤ 34 := by omega
  clear hl1 hl2 hl3 hA hK hj hx hr hv h0
  go_enter Tryd.func5, Tryd.ntmps5
  go_wp2_with fail
  refine HM0.out.mono ?_
  rintro y w1 ⟨p, c, rfl, hi, b1⟩
  rw [hn] at hi ⊢
  clear hn
  have a2 := (Below.refl w1.heap.size w1).alloc (Nat.le_refl _) (.cells #[.int .i64 A, .bool false, .slice p n c] 24)
  obtain ⟨k0, k1, k2⟩ := planAt_new w1 A false (.slice p n c) 24
  have c1 := b1.trans (a2.mono b1.size)
  have hN := IntsAt.below (IntsNew.at hi) a2
  have HN0 := Lib.hid hN
  obtain ⟨_, _, he, _, hcell⟩ := hN
  injection he with e1 e3 e2
  subst e1 e2
  clear e3
  obtain ⟨b, o, rfl, hci⟩ := hcell (by have := HNn.out; omega)
  have hcx := hci j (by have := HNn.out; omega)
  rw [HX.out] at hcx
  clear hi a2 b1 hcell hci
  obtain ⟨C, hC⟩ : ∃ C, w1.heap.size = C := ⟨_, rfl⟩
  rw [hC] at k0 k1 k2
  go_wp2_with fail
  go_region
  have k0d : (w1.alloc (.cells #[.int .i64 A, .bool false, .slice (some ⟨b, o, none⟩) n c] 24)).drew.cell? ⟨C, 0, none⟩ = some (.int .i64 A) := k0
  have k1d : (w1.alloc (.cells #[.int .i64 A, .bool false, .slice (some ⟨b, o, none⟩) n c] 24)).drew.cell? ⟨C, 1, none⟩ = some (.bool false) := k1
  have k2d : (w1.alloc (.cells #[.int .i64 A, .bool false, .slice (some ⟨b, o, none⟩) n c] 24)).drew.cell? ⟨C, 2, none⟩ = some (.slice (some ⟨b, o, none⟩) n c) := k2
  have hcxd : (w1.alloc (.cells #[.int .i64 A, .bool false, .slice (some ⟨b, o, none⟩) n c] 24)).drew.cell? ⟨b, o + j, none⟩ = some (.int .i64 x) := hcx
  have HNd : Hid (IntsAt (w1.alloc (.cells #[.int .i64 A, .bool false, .slice (some ⟨b, o, none⟩) n c] 24)).drew (.slice (some ⟨b, o, none⟩) n c) K) := HN0.out
  have HC := Lib.hid c1.drew
  clear k0 k1 k2 hcx c1 HN0 hC
  generalize (w1.alloc (.cells #[.int .i64 A, .bool false, .slice (some ⟨b, o, none⟩) n c] 24)).drew = wb at *
  have k0 := k0d
  have k1 := k1d
  have k2 := k2d
  have hcx := hcxd
  have c1 := Below.refl wb.heap.size wb
  clear k0d k1d k2d hcxd
  go_wp2_with fail
  refine (K1.out _ _ (HNd.out.below c1)).mono ?_
  rintro y w1 ⟨rfl, b1⟩
  replace k0 := cell_kept k0 b1
  replace k1 := cell_kept k1 b1
  replace k2 := cell_kept k2 b1
  replace hcx := cell_kept hcx b1
  have c2 := c1.trans (b1.mono c1.size); clear c1 b1
  have c1 := c2; clear c2
  go_wp2_with fail
  refine (K2.out _ _ (HNd.out.below c1)).mono ?_
  rintro y w1 ⟨rfl, b1⟩
  replace k0 := cell_kept k0 b1
  replace k1 := cell_kept k1 b1
  replace k2 := cell_kept k2 b1
  replace hcx := cell_kept hcx b1
  have c2 := c1.trans (b1.mono c1.size); clear c1 b1
  have c1 := c2; clear c2
  clear K1 K2
  go_wp2_with fail
  go_region_held3 (fun w' => w'.cell? ⟨C, 0, none⟩ = some (.int .i64 A) ∧ w'.cell? ⟨C, 1, none⟩ = some (.bool false) ∧ w'.cell? ⟨C, 2, none⟩ = some (.slice (some ⟨b, o, none⟩) n c) ∧ w'.cell? ⟨b, o + j, none⟩ = some (.int .i64 x) ∧ Below wb.heap.size wb w')
    (first
      | exact ⟨k0, k1, k2, hcx, c1.drew⟩
      | exact ⟨by assumption, by assumption, by assumption, by assumption, by assumption⟩
      | (go_split_ands; exact ⟨cell_kept (by assumption) b1, cell_kept (by assumption) b1, cell_kept (by assumption) b1, cell_kept (by assumption) b1, Below.trans (by assumption) (b1.mono (Below.size (by assumption)))⟩))
    (first
      | (go_at_call 17; go_split_ands; refine (K3.out _ _ (HNd.out.below (by assumption))).mono ?_; rintro y w2 ⟨rfl, b1⟩))
  go_split_ands
  have c1 := (show Below wb.heap.size wb w2 by assumption)
  replace k0 := (show w2.cell? ⟨C, 0, none⟩ = some (.int .i64 A) by assumption)
  replace k1 := (show w2.cell? ⟨C, 1, none⟩ = some (.bool false) by assumption)
  replace k2 := (show w2.cell? ⟨C, 2, none⟩ = some (.slice (some ⟨b, o, none⟩) n c) by assumption)
  replace hcx := (show w2.cell? ⟨b, o + j, none⟩ = some (.int .i64 x) by assumption)
  clear K3
  go_wp2_with fail
  refine (K4.out _ _ (HNd.out.below c1)).mono ?_
  rintro y w1 ⟨rfl, b1⟩
  replace k0 := cell_kept k0 b1
  replace k1 := cell_kept k1 b1
  replace k2 := cell_kept k2 b1
  replace hcx := cell_kept hcx b1
  have c2 := c1.trans (b1.mono c1.size); clear c1 b1
  have c1 := c2; clear c2
  go_wp2_with fail
  refine (K5.out _ _ (HNd.out.below c1)).mono ?_
  rintro y w1 ⟨rfl, b1⟩
  replace k0 := cell_kept k0 b1
  replace k1 := cell_kept k1 b1
  replace k2 := cell_kept k2 b1
  replace hcx := cell_kept hcx b1
  have c2 := c1.trans (b1.mono c1.size); clear c1 b1
  have c1 := c2; clear c2
  clear K4 K5
  go_wp2_with fail
  refine (K6.out _ _ (HNd.out.below c1)).mono ?_
  rintro y w1 ⟨rfl, b1⟩
  replace k0 := cell_kept k0 b1
  replace k1 := cell_kept k1 b1
  replace k2 := cell_kept k2 b1
  replace hcx := cell_kept hcx b1
  have c2 := c1.trans (b1.mono c1.size); clear c1 b1
  have c1 := c2; clear c2
  go_wp2_with fail
  refine (K7.out _ _ (HNd.out.below c1)).mono ?_
  rintro y w1 ⟨rfl, b1⟩
  replace k0 := cell_kept k0 b1
  replace k1 := cell_kept k1 b1
  replace k2 := cell_kept k2 b1
  replace hcx := cell_kept hcx b1
  have c2 := c1.trans (b1.mono c1.size); clear c1 b1
  have c1 := c2; clear c2
  go_wp2_with fail
  refine (K8.out _ _ (HNd.out.below c1)).mono ?_
  rintro y w1 ⟨rfl, b1⟩
  replace k0 := cell_kept k0 b1
  replace k1 := cell_kept k1 b1
  replace k2 := cell_kept k2 b1
  replace hcx := cell_kept hcx b1
  have c2 := c1.trans (b1.mono c1.size); clear c1 b1
  have c1 := c2; clear c2
  clear K6 K7 K8
  have hb1 : (0 : Int) ≤ (j : Int) := by omega
  have hb2 : (j : Int) < (n : Int) := by omega
  have hb3 : (j : Int) ≤ (n : Int) := by omega
  have hmr : min (u : Int) x = r := HR.out
  have hrr : (r == r) = true := beq_self_eq_true _
  have hxx : (x == x) = true := beq_self_eq_true _
  go_wp2_with fail
  go_still_tail 49, (by kernel_rfl)
  go_wp2_with fail
  refine (works_any m _ ((HT.out.below HC.out).below c1.drew) ((HE.out.below HC.out).below c1.drew) (cell_kept (cell_kept HM.out HC.out) c1.drew)).mono ?_
  rintro e w9 ⟨rfl, b1⟩
  have c2 := c1.drew.trans (b1.mono c1.drew.size)
  go_wp2_with fail
  go_ret
  exact ⟨rfl, HC.out.trans (c2.mono HC.out.size)⟩
end Go.Proofs.YtoceeegdbnigeaaDoor
