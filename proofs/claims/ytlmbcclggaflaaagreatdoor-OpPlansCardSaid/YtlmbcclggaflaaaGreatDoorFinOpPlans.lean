/-
  OpPlans: the walk.
  OpPlans: for every input the law returns true, and each argument reads behind the call as before it: the statement and its card.
  Conditions: none.
-/
import Derived.Test.YtlmbcclggaflaaaGreatDoorBuG
import Derived.Test.YtlmbcclggaflaaaGreatDoorBuF
import Derived.Test.YtlmbcclggaflaaaGreatDoorBuH
import Derived.Deep.RegionHeld3
set_option linter.unusedVariables false
namespace Go.Proofs.YtlmbcclggaflaaaGreatDoor
open Go Go.RowKit

theorem keyM_len (n : Nat) : (keyM n).length ≤ 32 := by
  unfold keyM
  repeat' split
  all_goals decide
theorem made_size (K Y Q T : Nat) (l : List UInt8) (k a b : Int) (x v : ByteArray) (ho : madeO K Y Q T l = ⟨k, a, b, x, v⟩) : (0 ≤ a ∧ a ≤ 1000000) ∧ x.size ≤ 32 ∧ v.size ≤ 512 := by
  have hkl := keyM_len (Y % 6)
  have hj : (keepT (keepM Y Q T)).length ≤ 8 * 34 := keepT_len _ 34 (fun k hk => by have := keepM_mem hk; omega) (by rw [keepM_len]; omega)
  have ht : (l.take 512).length ≤ 512 := by rw [List.length_take]; omega
  have e0 : eB.size = 0 := rfl
  unfold madeO at ho
  repeat' split at ho
  all_goals
    injection ho with e1 e2 e3 e4 e5
    subst e1 e2 e3 e4 e5
    simp only [pack_size, e0]
    omega
theorem made_fit (K Y Q T : Nat) (l : List UInt8) (k a b : Int) (x v : ByteArray) (ho : madeO K Y Q T l = ⟨k, a, b, x, v⟩) : opFit ⟨k, a, b, x, v⟩ := by
  obtain ⟨h1, h2, h3⟩ := made_size K Y Q T l k a b x v ho
  refine ⟨⟨?_, ?_⟩, ?_, ?_⟩
  · show _ ≤ a; omega
  · show a ≤ _; omega
  · show x.size ≤ _; omega
  · show v.size ≤ _; omega
theorem made_op (K Y Q T : Nat) (l : List UInt8) : ∃ k a b x v, madeO K Y Q T l = ⟨k, a, b, x, v⟩ ∧ opGood ⟨k, a, b, x, v⟩ ∧ opFit ⟨k, a, b, x, v⟩ := by
  have h := made_good K Y Q T l
  cases he : madeO K Y Q T l with
  | mk k a b x v =>
    rw [he] at h
    exact ⟨k, a, b, x, v, rfl, h, made_fit K Y Q T l k a b x v he⟩
theorem plan_cat (a b : Int) (x v : ByteArray) (D : UInt8) (h : opGood ⟨7, a, b, x, v⟩) (hD : D = if b = 1 then 121 else 110) : ((((⟨#[99, 114, 97, 115, 104, 32]⟩ ++ dB a) ++ ⟨#[32]⟩) ++ ⟨#[D]⟩) ++ ⟨#[32]⟩) ++ v = prT ⟨7, a, b, x, v⟩ := by
  rw [planT_text rfl h]
  unfold planT crashL dB
  subst hD
  apply ByteArray.ext
  apply Array.ext'
  simp [pack]
set_option maxRecDepth 100000 in
set_option maxHeartbeats 4000000 in
theorem plans_no (K Y Q T : Nat) (u : Value) (l : List UInt8) (hn : numOK K Y Q T) (k a b : Int) (x v : ByteArray) (ho : madeO K Y Q T l = ⟨k, a, b, x, v⟩) (hf : opFit ⟨k, a, b, x, v⟩) (hk : ¬ k = 7) (m : Int) (w : World) (hu : BytesAt w u l) (he : Env m w) :
    Calls Tryz.prog 8 #[numV K Y Q T u] w fun e w' => e = .returned (.bool true) ∧ Below w.heap.size w w' := by
  have HE := Lib.hid he
  have HN := Lib.hid hn
  have HO := Lib.hid ho
  have HF := Lib.hid hf
  have HK := Lib.hid hk
  have c1 := Lib.hid ((Below.refl w.heap.size w).alloc (Nat.le_refl _) (.cells #[.int .u8 K, .int .u8 Y, .int .u8 Q, .int .u32 T, u] 25))
  have HU := Lib.hid (hu.below c1.out)
  obtain ⟨n0, n1, n2, n3, n4⟩ := NumBox.new w K Y Q T u 25
  have d1 : (k != 7) = true := by rw [bne_iff_ne]; exact hk
  clear he hn ho hf hk hu
  go_enter Tryz.func8, Tryz.ntmps8
  go_wp2_with fail
  generalize (w.alloc (.cells #[.int .u8 K, .int .u8 Y, .int .u8 Q, .int .u32 T, u] 25)) = w0 at *
  refine (made_is K Y Q T HN.out u l _ HU.out (HE.out.below c1.out).1 k a b x v HO.out).mono ?_
  rintro e w1 ⟨rfl, b1⟩
  have c2 := Lib.hid (c1.out.trans (b1.mono c1.out.size))
  clear c1
  have c1 := Lib.hid c2.out
  clear c2
  clear b1 n0 n1 n2 n3 n4
  have b1 := (Below.refl w1.heap.size w1).alloc (Nat.le_refl _) (.cells #[.int .i64 k, .int .i64 a, .int .i64 b, .string x, .string v] 28)
  have HC := Lib.hid (OpBox.new w1 k a b x v 28)
  have c2 := Lib.hid (c1.out.trans (b1.mono c1.out.size))
  clear c1
  have c1 := Lib.hid c2.out
  clear c2
  clear b1
  obtain ⟨⟨k0, k1, k2, k3, k4⟩, kf⟩ := HC.out
  clear kf
  go_wp2_with fail
  generalize (w1.alloc (.cells #[.int .i64 k, .int .i64 a, .int .i64 b, .string x, .string v] 28)) = w2 at *
  obtain ⟨C, hC⟩ : ∃ C, w1.heap.size = C := ⟨_, rfl⟩
  rw [hC] at HC k0 k1 k2 k3 k4
  rw [hC]
  clear hC
  refine (oplan_bad k a b x v HF.out (fun h => HK.out h.2) m _ (HE.out.below c1.out)).mono ?_
  rintro e w3 ⟨rfl, b1⟩
  have c2 := Lib.hid (c1.out.trans (b1.mono c1.out.size))
  clear c1
  have c1 := Lib.hid c2.out
  clear c2
  have hh := Lib.hid (HC.out.below b1)
  clear HC
  have HC := Lib.hid hh.out
  clear hh
  clear b1 k0 k1 k2 k3 k4
  have b1 := (Below.refl w3.heap.size w3).alloc (Nat.le_refl _) (.cells #[.int .i64 0, .bool false, .slice none 0 0] 38)
  obtain ⟨⟨p0, p1, p2⟩, pf⟩ := PlanAt.new w3 0 false (.slice none 0 0) 38
  have c2 := Lib.hid (c1.out.trans (b1.mono c1.out.size))
  clear c1
  have c1 := Lib.hid c2.out
  clear c2
  have hh := Lib.hid (HC.out.below b1)
  clear HC
  have HC := Lib.hid hh.out
  clear hh
  clear b1 pf
  obtain ⟨⟨k0, k1, k2, k3, k4⟩, kf⟩ := HC.out
  clear kf
  go_wp2_with fail
  refine (works39_any m _ (HE.out.below c1.out)).mono ?_
  rintro e w4 ⟨rfl, b1⟩
  have c2 := Lib.hid (c1.out.trans (b1.mono c1.out.size))
  clear c1
  have c1 := Lib.hid c2.out
  clear c2
  clear b1 p0 p1 p2 k0 k1 k2 k3 k4
  go_wp2_with fail
  go_ret
  exact ⟨rfl, c1.out⟩
set_option maxRecDepth 100000 in
set_option maxHeartbeats 8000000 in
theorem plans_n (K Y Q T : Nat) (u : Value) (l : List UInt8) (hn : numOK K Y Q T) (a : Int) (x v : ByteArray) (ho : madeO K Y Q T l = ⟨7, a, 0, x, v⟩) (hf : opFit ⟨7, a, 0, x, v⟩) (hg : opGood ⟨7, a, 0, x, v⟩) (m : Int) (w : World) (hu : BytesAt w u l) (he : Env m w) :
    Calls Tryz.prog 8 #[numV K Y Q T u] w fun e w' => e = .returned (.bool true) ∧ Below w.heap.size w w' := by
  obtain ⟨i0, hi0, hz0, hz1, hz2⟩ := info_parts infoStr
  obtain ⟨g0, gA, gD, gE, gv, gp⟩ := planT_good (o := ⟨7, a, 0, x, v⟩) rfl hg
  have hcat := plan_cat a 0 x v 110 hg rfl
  have hvs := (made_size K Y Q T l 7 a 0 x v ho).2.2
  have har := (made_size K Y Q T l 7 a 0 x v ho).1
  have hp1 := fun m w he => oplan_good a 0 x v hf hg m w he
  have hq1 := fun m w he => print_any 7 a 0 x v hf m w he
  rw [gA, gD] at hp1
  rw [(pr_good hg).2] at hq1
  obtain ⟨L, hL⟩ : ∃ L, pL (planT ⟨7, a, 0, x, v⟩) = L := ⟨_, rfl⟩
  rw [hL] at hp1 gv gp
  obtain ⟨P, hP⟩ : ∃ P, prT ⟨7, a, 0, x, v⟩ = P := ⟨_, rfl⟩
  rw [hP] at hq1 hcat
  have hpp := planOK_parts gp
  have HE := Lib.hid he
  have HN := Lib.hid hn
  have HO := Lib.hid ho
  have HP1 : Hid (∀ m w, Env m w → Calls Tryz.prog 17 #[opA 7 a 0 x v] w fun e w' => (∃ s, e = .returned (.tuple #[planV a false s, .int .i64 0]) ∧ IntsNew w.heap.size w' s L) ∧ Below w.heap.size w w') := hp1
  have HQ1 := Lib.hid hq1
  have HCT := Lib.hid hcat
  have HV := Lib.hid gv
  have HPP := Lib.hid hpp
  have HVS := Lib.hid hvs
  have HAR := Lib.hid har
  have c1 := Lib.hid ((Below.refl w.heap.size w).alloc (Nat.le_refl _) (.cells #[.int .u8 K, .int .u8 Y, .int .u8 Q, .int .u32 T, u] 25))
  have HU := Lib.hid (hu.below c1.out)
  obtain ⟨n0, n1, n2, n3, n4⟩ := NumBox.new w K Y Q T u 25
  clear he hn ho hf hu hg g0 gA gD gE gv gp hcat hvs har hp1 hq1 hpp hL hP
  go_enter Tryz.func8, Tryz.ntmps8
  go_wp2_with fail
  generalize (w.alloc (.cells #[.int .u8 K, .int .u8 Y, .int .u8 Q, .int .u32 T, u] 25)) = w0 at *
  refine (made_is K Y Q T HN.out u l _ HU.out (HE.out.below c1.out).1 7 a 0 x v HO.out).mono ?_
  rintro e w1 ⟨rfl, b1⟩
  have c2 := Lib.hid (c1.out.trans (b1.mono c1.out.size))
  clear c1
  have c1 := Lib.hid c2.out
  clear c2
  clear b1 n0 n1 n2 n3 n4
  have b1 := (Below.refl w1.heap.size w1).alloc (Nat.le_refl _) (.cells #[.int .i64 7, .int .i64 a, .int .i64 0, .string x, .string v] 28)
  have HC := Lib.hid (OpBox.new w1 7 a 0 x v 28)
  have c2 := Lib.hid (c1.out.trans (b1.mono c1.out.size))
  clear c1
  have c1 := Lib.hid c2.out
  clear c2
  clear b1
  obtain ⟨⟨k0, k1, k2, k3, k4⟩, kf⟩ := HC.out
  clear kf
  go_wp2_with fail
  generalize (w1.alloc (.cells #[.int .i64 7, .int .i64 a, .int .i64 0, .string x, .string v] 28)) = w2 at *
  obtain ⟨C, hC⟩ : ∃ C, w1.heap.size = C := ⟨_, rfl⟩
  rw [hC] at HC k0 k1 k2 k3 k4
  rw [hC]
  clear hC
  refine (HP1.out m _ (HE.out.below c1.out)).mono ?_
  rintro e w3 ⟨⟨s3, rfl, h3⟩, b1⟩
  obtain ⟨p3, c3, rfl⟩ := ownsRow_slice h3
  have c2 := Lib.hid (c1.out.trans (b1.mono c1.out.size))
  clear c1
  have c1 := Lib.hid c2.out
  clear c2
  have hh := Lib.hid (HC.out.below b1)
  clear HC
  have HC := Lib.hid hh.out
  clear hh
  clear b1 k0 k1 k2 k3 k4
  have b1 := (Below.refl w3.heap.size w3).alloc (Nat.le_refl _) (.cells #[.int .i64 a, .bool false, .slice p3 L.length c3] 38)
  have HP := Lib.hid (PlanAt.new w3 a false (.slice p3 L.length c3) 38)
  have HI := Lib.hid (IntsNew.at (IntsNew.below h3 b1))
  have c2 := Lib.hid (c1.out.trans (b1.mono c1.out.size))
  clear c1
  have c1 := Lib.hid c2.out
  clear c2
  have hh := Lib.hid (HC.out.below b1)
  clear HC
  have HC := Lib.hid hh.out
  clear hh
  clear b1 h3
  obtain ⟨⟨k0, k1, k2, k3, k4⟩, kf⟩ := HC.out
  clear kf
  go_upto_region 4 with fail
  generalize (w3.alloc (.cells #[.int .i64 a, .bool false, .slice p3 L.length c3] 38)) = w4 at *
  obtain ⟨D4, hD4⟩ : ∃ D4, w3.heap.size = D4 := ⟨_, rfl⟩
  rw [hD4] at HP
  rw [hD4]
  clear hD4
  have h00 : Hid (w4.ownsRow w4.heap.size 9 1 (.slice none 0 0) 0 (strCellsL (keepW (L.take 0)))) := World.ownsRow_nil _ _ _ _
  obtain ⟨⟨p0, p1, p2⟩, pf⟩ := HP.out
  clear pf
  go_wp2_with fail
  clear k0 k1 k2 k3 k4 p0 p1 p2
  obtain ⟨p', c', hpe, _, hcell⟩ := HI.out
  injection hpe with e1 _ e2
  subst e1 e2
  have HCL := Lib.hid hcell
  clear hcell HI
  go_loopw [6, 36] (fun vo vi wr => ∃ (i : Nat) (u : Value), i ≤ L.length ∧ vi = .int .i64 i ∧ u = vo ∧ Hid (wr.ownsRow w4.heap.size 9 1 u i (strCellsL (keepW (L.take i)))) ∧ Below w4.heap.size w4 wr) (fun _ vi _ => L.length - (intOf vi).toNat)
  case atStart => exact ⟨0, _, Nat.zero_le _, rfl, rfl, h00, Below.refl _ _⟩
  case round =>
    clear h00
    obtain ⟨i, vo, hi, rfl, rfl, hr, c3⟩ := hrel
    by_cases hlt : i < L.length
    · obtain ⟨bb, oo, rfl, hci⟩ := HCL.out (by omega)
      have hcx := cell_kept (hci i hlt) c3
      have hsn := keepW_snoc L i hlt
      have hmem : L.getD i 0 ∈ L := by rw [List.getD, List.getElem?_eq_getElem hlt]; exact List.getElem_mem hlt
      have hfb := HPP.out.2.2.2.2 _ hmem
      obtain ⟨k, hk⟩ : ∃ k, L.getD i 0 = k := ⟨_, rfl⟩
      rw [hk] at hcx hsn hfb
      obtain ⟨D, hD⟩ : ∃ D, dB k = D := ⟨_, rfl⟩
      rw [hD] at hsn
      have HD := Lib.hid hD
      have HSn := Lib.hid hsn
      have HFB := Lib.hid hfb
      clear hci hsn hmem hk hD hfb
      have hl34 := HPP.out.2.2.2.1
      go_wp2_with fail
      refine (itoa_is k HFB.out.1 (by have := HFB.out.2; omega) D HD.out _ (HE.out.below (c1.out.trans (c3.mono c1.out.size))).1).mono ?_
      rintro e w5 ⟨rfl, b1⟩
      have hr3 := Lib.hid (own_below hr.out b1)
      have c4 := c3.trans (b1.mono c3.size)
      clear hr b1 c3 hcx
      go_wp2_with (at_builtin; refine wpList_append_own _ rfl (.tmp 40) (.tmp 43) 50 rfl w4.heap.size 9 i0 (.string ⟨#[]⟩) 1 16 Tryz.underlying50 hi0 hz0 hz1 hz2 rfl (by decide) _ _ _ rfl (hr3.out.alloc _) ⟨w5.heap.size, 0, none⟩ 1 1 [.string D] rfl rfl (cell_one_new _ _ _) (fun q hq => by simp at hq; subst hq; rfl) (by unfold maxLen; omega) (by omega) (by have := c4.size; simp; omega) ?_)
      intro v' w6 hown hgrow _
      have HR2 : Hid (w6.ownsRow w4.heap.size 9 1 v' (i + 1) (strCellsL (keepW (L.take (i + 1))))) := by
        show World.ownsRow _ _ _ _ _ _ _
        rw [HSn.out, ← strCellsL_snoc]
        exact hown
      have c5 : Below w4.heap.size w4 w6 := (c4.alloc c4.size _).grown hgrow (by have := c4.size; simp; omega) (fun k hk => (hr3.out.lt k hk).1)
      clear hown hgrow hr3 c4
      go_wp2_with fail
      go_roundw
      case rel => exact ⟨i + 1, _, by omega, by go_num, rfl, HR2, c5⟩
      case measure => simp [intOf]; omega
    · obtain rfl : i = L.length := by omega
      clear hlt hi
      rw [List.take_length] at hr
      have hC2 := Lib.hid (c1.out.trans (c3.mono c1.out.size))
      have HC2 := Lib.hid (HC.out.below c3)
      have HP2 := Lib.hid (HP.out.below c3)
      clear c1 HC HP c3 HCL HP1 HN HO HU
      have c1 := Lib.hid hC2.out
      have HC := Lib.hid HC2.out
      have HP := Lib.hid HP2.out
      clear hC2 HC2 HP2
      obtain ⟨⟨k0, k1, k2, k3, k4⟩, kf⟩ := HC.out
      obtain ⟨⟨p0, p1, p2⟩, pf⟩ := HP.out
      clear kf pf
      obtain ⟨n, hn⟩ : ∃ n, L.length = n := ⟨_, rfl⟩
      have HLn := Lib.hid hn
      have hn0 := HPP.out.2.2.1
      have hl34 := HPP.out.2.2.2.1
      rw [hn] at hr hn0 hl34 p2
      obtain ⟨g, cp, hvo⟩ : ∃ g cp, vo = .slice (some ⟨g, 0, none⟩) n cp := by
        rcases hr.out.2 with ⟨he, h0⟩ | ⟨g, cap, cur, he, _⟩
        · omega
        · exact ⟨g, cap, he⟩
      subst hvo
      clear hn
      go_wp2_with fail
      refine (HQ1.out m _ (HE.out.below c1.out)).mono ?_
      rintro e w7 ⟨rfl, b1⟩
      have hr3 := Lib.hid (own_below hr.out b1)
      have hC2 := Lib.hid (c1.out.trans (b1.mono c1.out.size))
      have HC2 := Lib.hid (HC.out.below b1)
      have HP2 := Lib.hid (HP.out.below b1)
      clear c1 HC HP hr b1 k0 k1 k2 k3 k4 p0 p1 p2 HQ1
      go_upto_region 15 with fail
      obtain ⟨⟨k0, k1, k2, k3, k4⟩, kf⟩ := HC2.out
      obtain ⟨⟨p0, p1, p2⟩, pf⟩ := HP2.out
      rw [HLn.out] at p2
      clear kf pf HC2 HP2
      have k0d : w7.drew.cell? ⟨C, 0, none⟩ = some (.int .i64 7) := k0
      have k1d : w7.drew.cell? ⟨C, 1, none⟩ = some (.int .i64 a) := k1
      have k2d : w7.drew.cell? ⟨C, 2, none⟩ = some (.int .i64 0) := k2
      have k3d : w7.drew.cell? ⟨C, 3, none⟩ = some (.string x) := k3
      have k4d : w7.drew.cell? ⟨C, 4, none⟩ = some (.string v) := k4
      have p0d : w7.drew.cell? ⟨D4, 0, none⟩ = some (.int .i64 a) := p0
      have p1d : w7.drew.cell? ⟨D4, 1, none⟩ = some (.bool false) := p1
      have cd : Below w7.heap.size w7 w7.drew := (Below.refl w7.heap.size w7).drew
      have HJ : Hid (Lib.join ((keepW L).map (·.data.toList)) (⟨#[44]⟩ : ByteArray).data.toList = v.data.toList) := by
        show _ = _
        rw [keepW_data]
        exact HV.out.symm
      obtain ⟨I, hI⟩ : ∃ I, dB a = I := ⟨_, rfl⟩
      have hIs : I.size ≤ 7 := by rw [← hI]; exact dB_size a HAR.out.2
      have hcat := HCT.out
      rw [hI] at hcat
      have hvs := HVS.out
      have HI := Lib.hid hI
      have he1 : (v.toList == v.toList) = true := beq_self_eq_true _
      have he2 : (P.toList == P.toList) = true := beq_self_eq_true _
      have he3 : (a == a) = true := beq_self_eq_true _
      have q0 : ¬ 9223372036854775807 < 6 + I.size := by omega
      have q1 : ¬ 9223372036854775807 < 6 + I.size + 1 := by omega
      have q2 : ¬ 9223372036854775807 < 6 + I.size + 1 + 1 := by omega
      have q3 : ¬ 9223372036854775807 < 6 + I.size + 1 + 1 + 1 := by omega
      have q4 : ¬ 9223372036854775807 < 6 + I.size + 1 + 1 + 1 + v.size := by omega
      clear hI HCT k0 k1 k2 k3 k4 p0 p1 p2
      go_region_held3 (fun w' => (w'.cell? ⟨C, 0, none⟩ = some (.int .i64 7) ∧ w'.cell? ⟨C, 1, none⟩ = some (.int .i64 a) ∧ w'.cell? ⟨C, 2, none⟩ = some (.int .i64 0) ∧ w'.cell? ⟨C, 3, none⟩ = some (.string x) ∧ w'.cell? ⟨C, 4, none⟩ = some (.string v)) ∧
          (w'.cell? ⟨D4, 0, none⟩ = some (.int .i64 a) ∧ w'.cell? ⟨D4, 1, none⟩ = some (.bool false)) ∧ Below w7.heap.size w7 w')
        (first
          | with_reducible exact ⟨⟨k0d, k1d, k2d, k3d, k4d⟩, ⟨p0d, p1d⟩, cd⟩
          | with_reducible exact ⟨⟨by assumption, by assumption, by assumption, by assumption, by assumption⟩, ⟨by assumption, by assumption⟩, by assumption⟩
          | (go_split_ands; with_reducible exact ⟨⟨cell_kept (by assumption) b1, cell_kept (by assumption) b1, cell_kept (by assumption) b1, cell_kept (by assumption) b1, cell_kept (by assumption) b1⟩, ⟨cell_kept (by assumption) b1, cell_kept (by assumption) b1⟩, Below.trans (by assumption) (b1.mono (Below.size (by assumption)))⟩))
        (first
          | (go_at_call 27; go_split_ands; refine (join_is (keepW L) n (by unfold keepW; rw [List.length_map]; exact HLn.out) v ⟨#[44]⟩ HJ.out (by omega) (by omega) w4.heap.size g cp _ (own_below hr3.out (by assumption)) (by omega)).mono ?_; rintro y w8 ⟨rfl, b1⟩)
          | (go_at_call 43; go_split_ands; refine (itoa_is a HAR.out.1 HAR.out.2 I HI.out _ ((HE.out.below hC2.out).below (by assumption)).1).mono ?_; rintro y w8 ⟨rfl, b1⟩)
          | (go_at_call 19; go_split_ands; refine (works39_any m _ ((HE.out.below hC2.out).below (by assumption))).mono ?_; rintro y w8 ⟨rfl, b1⟩))
      go_split_ands
      go_wp2_with fail
      go_ret
      exact ⟨rfl, hC2.out.trans (Below.mono (by assumption) hC2.out.size)⟩
set_option maxRecDepth 100000 in
set_option maxHeartbeats 8000000 in
theorem plans_y (K Y Q T : Nat) (u : Value) (l : List UInt8) (hn : numOK K Y Q T) (a : Int) (x v : ByteArray) (ho : madeO K Y Q T l = ⟨7, a, 1, x, v⟩) (hf : opFit ⟨7, a, 1, x, v⟩) (hg : opGood ⟨7, a, 1, x, v⟩) (m : Int) (w : World) (hu : BytesAt w u l) (he : Env m w) :
    Calls Tryz.prog 8 #[numV K Y Q T u] w fun e w' => e = .returned (.bool true) ∧ Below w.heap.size w w' := by
  obtain ⟨i0, hi0, hz0, hz1, hz2⟩ := info_parts infoStr
  obtain ⟨g0, gA, gD, gE, gv, gp⟩ := planT_good (o := ⟨7, a, 1, x, v⟩) rfl hg
  have hcat := plan_cat a 1 x v 121 hg rfl
  have hvs := (made_size K Y Q T l 7 a 1 x v ho).2.2
  have har := (made_size K Y Q T l 7 a 1 x v ho).1
  have hp1 := fun m w he => oplan_good a 1 x v hf hg m w he
  have hq1 := fun m w he => print_any 7 a 1 x v hf m w he
  rw [gA, gD] at hp1
  rw [(pr_good hg).2] at hq1
  obtain ⟨L, hL⟩ : ∃ L, pL (planT ⟨7, a, 1, x, v⟩) = L := ⟨_, rfl⟩
  rw [hL] at hp1 gv gp
  obtain ⟨P, hP⟩ : ∃ P, prT ⟨7, a, 1, x, v⟩ = P := ⟨_, rfl⟩
  rw [hP] at hq1 hcat
  have hpp := planOK_parts gp
  have HE := Lib.hid he
  have HN := Lib.hid hn
  have HO := Lib.hid ho
  have HP1 : Hid (∀ m w, Env m w → Calls Tryz.prog 17 #[opA 7 a 1 x v] w fun e w' => (∃ s, e = .returned (.tuple #[planV a true s, .int .i64 0]) ∧ IntsNew w.heap.size w' s L) ∧ Below w.heap.size w w') := hp1
  have HQ1 := Lib.hid hq1
  have HCT := Lib.hid hcat
  have HV := Lib.hid gv
  have HPP := Lib.hid hpp
  have HVS := Lib.hid hvs
  have HAR := Lib.hid har
  have c1 := Lib.hid ((Below.refl w.heap.size w).alloc (Nat.le_refl _) (.cells #[.int .u8 K, .int .u8 Y, .int .u8 Q, .int .u32 T, u] 25))
  have HU := Lib.hid (hu.below c1.out)
  obtain ⟨n0, n1, n2, n3, n4⟩ := NumBox.new w K Y Q T u 25
  clear he hn ho hf hu hg g0 gA gD gE gv gp hcat hvs har hp1 hq1 hpp hL hP
  go_enter Tryz.func8, Tryz.ntmps8
  go_wp2_with fail
  generalize (w.alloc (.cells #[.int .u8 K, .int .u8 Y, .int .u8 Q, .int .u32 T, u] 25)) = w0 at *
  refine (made_is K Y Q T HN.out u l _ HU.out (HE.out.below c1.out).1 7 a 1 x v HO.out).mono ?_
  rintro e w1 ⟨rfl, b1⟩
  have c2 := Lib.hid (c1.out.trans (b1.mono c1.out.size))
  clear c1
  have c1 := Lib.hid c2.out
  clear c2
  clear b1 n0 n1 n2 n3 n4
  have b1 := (Below.refl w1.heap.size w1).alloc (Nat.le_refl _) (.cells #[.int .i64 7, .int .i64 a, .int .i64 1, .string x, .string v] 28)
  have HC := Lib.hid (OpBox.new w1 7 a 1 x v 28)
  have c2 := Lib.hid (c1.out.trans (b1.mono c1.out.size))
  clear c1
  have c1 := Lib.hid c2.out
  clear c2
  clear b1
  obtain ⟨⟨k0, k1, k2, k3, k4⟩, kf⟩ := HC.out
  clear kf
  go_wp2_with fail
  generalize (w1.alloc (.cells #[.int .i64 7, .int .i64 a, .int .i64 1, .string x, .string v] 28)) = w2 at *
  obtain ⟨C, hC⟩ : ∃ C, w1.heap.size = C := ⟨_, rfl⟩
  rw [hC] at HC k0 k1 k2 k3 k4
  rw [hC]
  clear hC
  refine (HP1.out m _ (HE.out.below c1.out)).mono ?_
  rintro e w3 ⟨⟨s3, rfl, h3⟩, b1⟩
  obtain ⟨p3, c3, rfl⟩ := ownsRow_slice h3
  have c2 := Lib.hid (c1.out.trans (b1.mono c1.out.size))
  clear c1
  have c1 := Lib.hid c2.out
  clear c2
  have hh := Lib.hid (HC.out.below b1)
  clear HC
  have HC := Lib.hid hh.out
  clear hh
  clear b1 k0 k1 k2 k3 k4
  have b1 := (Below.refl w3.heap.size w3).alloc (Nat.le_refl _) (.cells #[.int .i64 a, .bool true, .slice p3 L.length c3] 38)
  have HP := Lib.hid (PlanAt.new w3 a true (.slice p3 L.length c3) 38)
  have HI := Lib.hid (IntsNew.at (IntsNew.below h3 b1))
  have c2 := Lib.hid (c1.out.trans (b1.mono c1.out.size))
  clear c1
  have c1 := Lib.hid c2.out
  clear c2
  have hh := Lib.hid (HC.out.below b1)
  clear HC
  have HC := Lib.hid hh.out
  clear hh
  clear b1 h3
  obtain ⟨⟨k0, k1, k2, k3, k4⟩, kf⟩ := HC.out
  clear kf
  go_upto_region 4 with fail
  generalize (w3.alloc (.cells #[.int .i64 a, .bool true, .slice p3 L.length c3] 38)) = w4 at *
  obtain ⟨D4, hD4⟩ : ∃ D4, w3.heap.size = D4 := ⟨_, rfl⟩
  rw [hD4] at HP
  rw [hD4]
  clear hD4
  have h00 : Hid (w4.ownsRow w4.heap.size 9 1 (.slice none 0 0) 0 (strCellsL (keepW (L.take 0)))) := World.ownsRow_nil _ _ _ _
  obtain ⟨⟨p0, p1, p2⟩, pf⟩ := HP.out
  clear pf
  go_wp2_with fail
  clear k0 k1 k2 k3 k4 p0 p1 p2
  obtain ⟨p', c', hpe, _, hcell⟩ := HI.out
  injection hpe with e1 _ e2
  subst e1 e2
  have HCL := Lib.hid hcell
  clear hcell HI
  go_loopw [6, 36] (fun vo vi wr => ∃ (i : Nat) (u : Value), i ≤ L.length ∧ vi = .int .i64 i ∧ u = vo ∧ Hid (wr.ownsRow w4.heap.size 9 1 u i (strCellsL (keepW (L.take i)))) ∧ Below w4.heap.size w4 wr) (fun _ vi _ => L.length - (intOf vi).toNat)
  case atStart => exact ⟨0, _, Nat.zero_le _, rfl, rfl, h00, Below.refl _ _⟩
  case round =>
    clear h00
    obtain ⟨i, vo, hi, rfl, rfl, hr, c3⟩ := hrel
    by_cases hlt : i < L.length
    · obtain ⟨bb, oo, rfl, hci⟩ := HCL.out (by omega)
      have hcx := cell_kept (hci i hlt) c3
      have hsn := keepW_snoc L i hlt
      have hmem : L.getD i 0 ∈ L := by rw [List.getD, List.getElem?_eq_getElem hlt]; exact List.getElem_mem hlt
      have hfb := HPP.out.2.2.2.2 _ hmem
      obtain ⟨k, hk⟩ : ∃ k, L.getD i 0 = k := ⟨_, rfl⟩
      rw [hk] at hcx hsn hfb
      obtain ⟨D, hD⟩ : ∃ D, dB k = D := ⟨_, rfl⟩
      rw [hD] at hsn
      have HD := Lib.hid hD
      have HSn := Lib.hid hsn
      have HFB := Lib.hid hfb
      clear hci hsn hmem hk hD hfb
      have hl34 := HPP.out.2.2.2.1
      go_wp2_with fail
      refine (itoa_is k HFB.out.1 (by have := HFB.out.2; omega) D HD.out _ (HE.out.below (c1.out.trans (c3.mono c1.out.size))).1).mono ?_
      rintro e w5 ⟨rfl, b1⟩
      have hr3 := Lib.hid (own_below hr.out b1)
      have c4 := c3.trans (b1.mono c3.size)
      clear hr b1 c3 hcx
      go_wp2_with (at_builtin; refine wpList_append_own _ rfl (.tmp 40) (.tmp 43) 50 rfl w4.heap.size 9 i0 (.string ⟨#[]⟩) 1 16 Tryz.underlying50 hi0 hz0 hz1 hz2 rfl (by decide) _ _ _ rfl (hr3.out.alloc _) ⟨w5.heap.size, 0, none⟩ 1 1 [.string D] rfl rfl (cell_one_new _ _ _) (fun q hq => by simp at hq; subst hq; rfl) (by unfold maxLen; omega) (by omega) (by have := c4.size; simp; omega) ?_)
      intro v' w6 hown hgrow _
      have HR2 : Hid (w6.ownsRow w4.heap.size 9 1 v' (i + 1) (strCellsL (keepW (L.take (i + 1))))) := by
        show World.ownsRow _ _ _ _ _ _ _
        rw [HSn.out, ← strCellsL_snoc]
        exact hown
      have c5 : Below w4.heap.size w4 w6 := (c4.alloc c4.size _).grown hgrow (by have := c4.size; simp; omega) (fun k hk => (hr3.out.lt k hk).1)
      clear hown hgrow hr3 c4
      go_wp2_with fail
      go_roundw
      case rel => exact ⟨i + 1, _, by omega, by go_num, rfl, HR2, c5⟩
      case measure => simp [intOf]; omega
    · obtain rfl : i = L.length := by omega
      clear hlt hi
      rw [List.take_length] at hr
      have hC2 := Lib.hid (c1.out.trans (c3.mono c1.out.size))
      have HC2 := Lib.hid (HC.out.below c3)
      have HP2 := Lib.hid (HP.out.below c3)
      clear c1 HC HP c3 HCL HP1 HN HO HU
      have c1 := Lib.hid hC2.out
      have HC := Lib.hid HC2.out
      have HP := Lib.hid HP2.out
      clear hC2 HC2 HP2
      obtain ⟨⟨k0, k1, k2, k3, k4⟩, kf⟩ := HC.out
      obtain ⟨⟨p0, p1, p2⟩, pf⟩ := HP.out
      clear kf pf
      obtain ⟨n, hn⟩ : ∃ n, L.length = n := ⟨_, rfl⟩
      have HLn := Lib.hid hn
      have hn0 := HPP.out.2.2.1
      have hl34 := HPP.out.2.2.2.1
      rw [hn] at hr hn0 hl34 p2
      obtain ⟨g, cp, hvo⟩ : ∃ g cp, vo = .slice (some ⟨g, 0, none⟩) n cp := by
        rcases hr.out.2 with ⟨he, h0⟩ | ⟨g, cap, cur, he, _⟩
        · omega
        · exact ⟨g, cap, he⟩
      subst hvo
      clear hn
      go_wp2_with fail
      refine (HQ1.out m _ (HE.out.below c1.out)).mono ?_
      rintro e w7 ⟨rfl, b1⟩
      have hr3 := Lib.hid (own_below hr.out b1)
      have hC2 := Lib.hid (c1.out.trans (b1.mono c1.out.size))
      have HC2 := Lib.hid (HC.out.below b1)
      have HP2 := Lib.hid (HP.out.below b1)
      clear c1 HC HP hr b1 k0 k1 k2 k3 k4 p0 p1 p2 HQ1
      go_upto_region 15 with fail
      obtain ⟨⟨k0, k1, k2, k3, k4⟩, kf⟩ := HC2.out
      obtain ⟨⟨p0, p1, p2⟩, pf⟩ := HP2.out
      rw [HLn.out] at p2
      clear kf pf HC2 HP2
      have k0d : w7.drew.cell? ⟨C, 0, none⟩ = some (.int .i64 7) := k0
      have k1d : w7.drew.cell? ⟨C, 1, none⟩ = some (.int .i64 a) := k1
      have k2d : w7.drew.cell? ⟨C, 2, none⟩ = some (.int .i64 1) := k2
      have k3d : w7.drew.cell? ⟨C, 3, none⟩ = some (.string x) := k3
      have k4d : w7.drew.cell? ⟨C, 4, none⟩ = some (.string v) := k4
      have p0d : w7.drew.cell? ⟨D4, 0, none⟩ = some (.int .i64 a) := p0
      have p1d : w7.drew.cell? ⟨D4, 1, none⟩ = some (.bool true) := p1
      have cd : Below w7.heap.size w7 w7.drew := (Below.refl w7.heap.size w7).drew
      have HJ : Hid (Lib.join ((keepW L).map (·.data.toList)) (⟨#[44]⟩ : ByteArray).data.toList = v.data.toList) := by
        show _ = _
        rw [keepW_data]
        exact HV.out.symm
      obtain ⟨I, hI⟩ : ∃ I, dB a = I := ⟨_, rfl⟩
      have hIs : I.size ≤ 7 := by rw [← hI]; exact dB_size a HAR.out.2
      have hcat := HCT.out
      rw [hI] at hcat
      have hvs := HVS.out
      have HI := Lib.hid hI
      have he1 : (v.toList == v.toList) = true := beq_self_eq_true _
      have he2 : (P.toList == P.toList) = true := beq_self_eq_true _
      have he3 : (a == a) = true := beq_self_eq_true _
      have q0 : ¬ 9223372036854775807 < 6 + I.size := by omega
      have q1 : ¬ 9223372036854775807 < 6 + I.size + 1 := by omega
      have q2 : ¬ 9223372036854775807 < 6 + I.size + 1 + 1 := by omega
      have q3 : ¬ 9223372036854775807 < 6 + I.size + 1 + 1 + 1 := by omega
      have q4 : ¬ 9223372036854775807 < 6 + I.size + 1 + 1 + 1 + v.size := by omega
      clear hI HCT k0 k1 k2 k3 k4 p0 p1 p2
      go_region_held3 (fun w' => (w'.cell? ⟨C, 0, none⟩ = some (.int .i64 7) ∧ w'.cell? ⟨C, 1, none⟩ = some (.int .i64 a) ∧ w'.cell? ⟨C, 2, none⟩ = some (.int .i64 1) ∧ w'.cell? ⟨C, 3, none⟩ = some (.string x) ∧ w'.cell? ⟨C, 4, none⟩ = some (.string v)) ∧
          (w'.cell? ⟨D4, 0, none⟩ = some (.int .i64 a) ∧ w'.cell? ⟨D4, 1, none⟩ = some (.bool true)) ∧ Below w7.heap.size w7 w')
        (first
          | with_reducible exact ⟨⟨k0d, k1d, k2d, k3d, k4d⟩, ⟨p0d, p1d⟩, cd⟩
          | with_reducible exact ⟨⟨by assumption, by assumption, by assumption, by assumption, by assumption⟩, ⟨by assumption, by assumption⟩, by assumption⟩
          | (go_split_ands; with_reducible exact ⟨⟨cell_kept (by assumption) b1, cell_kept (by assumption) b1, cell_kept (by assumption) b1, cell_kept (by assumption) b1, cell_kept (by assumption) b1⟩, ⟨cell_kept (by assumption) b1, cell_kept (by assumption) b1⟩, Below.trans (by assumption) (b1.mono (Below.size (by assumption)))⟩))
        (first
          | (go_at_call 27; go_split_ands; refine (join_is (keepW L) n (by unfold keepW; rw [List.length_map]; exact HLn.out) v ⟨#[44]⟩ HJ.out (by omega) (by omega) w4.heap.size g cp _ (own_below hr3.out (by assumption)) (by omega)).mono ?_; rintro y w8 ⟨rfl, b1⟩)
          | (go_at_call 43; go_split_ands; refine (itoa_is a HAR.out.1 HAR.out.2 I HI.out _ ((HE.out.below hC2.out).below (by assumption)).1).mono ?_; rintro y w8 ⟨rfl, b1⟩)
          | (go_at_call 19; go_split_ands; refine (works39_any m _ ((HE.out.below hC2.out).below (by assumption))).mono ?_; rintro y w8 ⟨rfl, b1⟩))
      go_split_ands
      go_wp2_with fail
      go_ret
      exact ⟨rfl, hC2.out.trans (Below.mono (by assumption) hC2.out.size)⟩
theorem walkOpPlans (K Y Q T : Nat) (u : Value) (l : List UInt8) (hn : numOK K Y Q T) (m : Int) (w : World) (hu : BytesAt w u l) (ht : Tab w) (he : Errs w) (hm : w.cell? ⟨0, 0, none⟩ = some (.int .i64 m)) :
    Calls Tryz.prog 8 #[numV K Y Q T u] w fun e w' => e = .returned (.bool true) ∧ Below w.heap.size w w' := by
  obtain ⟨k, a, b, x, v, ho, hg, hf⟩ := made_op K Y Q T l
  by_cases hk : k = 7
  · subst hk
    rcases (show b = 0 ∨ b = 1 from (good7_range (o := ⟨7, a, b, x, v⟩) rfl hg).2.2) with rfl | rfl
    · exact plans_n K Y Q T u l hn a x v ho hf hg m w hu ⟨ht, he, hm⟩
    · exact plans_y K Y Q T u l hn a x v ho hf hg m w hu ⟨ht, he, hm⟩
  · exact plans_no K Y Q T u l hn k a b x v ho hf hk m w hu ⟨ht, he, hm⟩
end Go.Proofs.YtlmbcclggaflaaaGreatDoor
namespace Go.Proofs.YtlmbcclggaflaaaGreatDoor.lawOpPlans
open Go Go.RowKit Go.ChangeShapes Go.WideShapes Go.ChangeAt
open Go.ChangeMaps (open_string shut_string)

set_option maxRecDepth 100000 in
theorem contract (H : Type) (enc : TypeId × Value → H) (W : World) (base : Nat) (args : Array Value) (ds gs : List (DataW H)) (before : List MemPlace)
    (hval : ∀ (j : Nat) t v, Tryz.f8.params[j]? = some t → args[j]? = some v → Value.okWide Tryz.prog W .any base t v)
    (hW : DataW.Whole enc Tryz.prog Tryz.f8.params.toList Rows.opPlansSpec.vars false W args.toList ds gs before) (hL : laidMetH Tryz.prog Rows.opPlansRow.laid W) (hR : (DataW.weightsEach Tryz.prog (Tryz.f8.params.toList ++ (OpenSpec.ofChange Rows.opPlansSpec).bare.plain.varTypes Tryz.prog) (ds ++ gs)).all (· ≤ reachBytes) = true) (hS : W.ShapedOpen Tryz.prog) :
    Calls Tryz.prog 8 args W fun e W' => ∃ v, e = .returned v ∧ Rows.opPlansSpec.post enc Tryz.prog Tryz.f8 false true false false W args v W' := by
  have hW' := hW
  obtain ⟨p, q, hA0, hV, rfl, hfz, hnd⟩ := hW
  have hA : DataW.TrodAll enc Tryz.prog W 0 (fun _ => true) true Tryz.f8.params.toList args.toList ds p := hA0
  rw [Tryz.params8] at hA hval
  obtain ⟨v0, vs0, d0, ds0, p0, q0, hargs, rfl, rfl, h0, r0⟩ := trodAll_cons hA
  obtain ⟨rfl, rfl, rfl⟩ := trodAll_nil r0
  obtain rfl : args = #[v0] := by cases args; simp_all
  obtain ⟨rfl, rfl⟩ := trodVars_none hV
  obtain ⟨mL, hm⟩ := maxLen_of hS
  obtain ⟨K0, Y0, Q0, T0, u0, l0, rfl, R0, B0⟩ := open_num h0 (hval 0 25 v0 rfl rfl)
  clear hA0
  simp only [List.append_nil] at hW'
  have hlt := fun x hx => hW'.lt x hx
  refine (walkOpPlans K0 Y0 Q0 T0 u0 l0 R0 mL W B0 (tab_of_laid hL) (errs_of_laid hL) hm).mono fun e W' ⟨he, hb⟩ => ?_
  subst he
  refine ⟨_, rfl, _, _, _, [], (p0 ++ []), [], hW', ?_, ?_, rfl, hb.frame _, fun h => by cases h⟩
  · exact trodAll_cons_mk (shut_bool Tryz.underlying4 _) trodAll_mk0
  · exact trodAll_cons_mk (Below.trod (by kernel_rfl) (by kernel_rfl) (of_decide_eq_true (by kernel_rfl)) h0 hb (fun x hx => by simpa using hlt x (by simp [hx]))) trodAll_mk0

theorem reads (os : Os) {H : Type} (enc : TypeId × Value → H) : ∃ places, DataW.whole enc Tryz.prog ((laidWorld os).forCall (fun _ _ => 0) ⟨#[], #[.agg #[.int .u8 0, .int .u8 0, .int .u8 0, .int .u32 0, .slice none 0 0]], []⟩).memory Tryz.f8.params.toList Rows.opPlansSpec.vars false (#[.agg #[.int .u8 0, .int .u8 0, .int .u8 0, .int .u32 0, .slice none 0 0]] : Array Value).toList 8 = some ([.agg [.lit (.int .u8 0), .lit (.int .u8 0), .lit (.int .u8 0), .lit (.int .u32 0), .nil]], [], places) :=
  ⟨[], by kernel_rfl⟩

set_option maxRecDepth 100000 in
theorem lifted (os : Os) (started : os.Started) (H : Type) (enc : TypeId × Value → H) (F : Stop.Interp) :
    ReturnsInHanded {} Tryz.checked os 8 .any ((OpenSpec.ofChange Rows.opPlansSpec).preRow enc Tryz.prog Tryz.f8 Rows.opPlansRow.domain false Rows.opPlansRow.laid) (((OpenSpec.ofChange Rows.opPlansSpec).at F).post enc Tryz.prog Tryz.f8 false true false false) := by
  obtain ⟨places, hx⟩ := reads os enc
  refine returnsInHanded_of_row (C := Tryz.checked) (s := OpenSpec.ofChange Rows.opPlansSpec) own started (by kernel_rfl) Tryz.func8
    (witness_row_atRef (enc := enc) (C := Tryz.checked) false (laidWorld os) #[.agg #[.int .u8 0, .int .u8 0, .int .u8 0, .int .u32 0, .slice none 0 0]] rfl (by kernel_rfl) (by kernel_rfl) (by kernel_rfl)
      (OpenSpec.preRow_of_cond 8 hx (by kernel_rfl) (fun k hk => by cases hk) (by kernel_rfl) (laid_met os _))) ?_
  intro W base args ds gs before hval hW _ _ hR hL hS _
  exact contract H enc W base args ds gs before hval hW hL hR hS

theorem said : Rows.OpPlansSaid :=
  OpenClaim.holds_of_cond 8 Tryz.f8 rfl rfl rfl rfl rfl rfl rfl ⟨rfl, rfl, rfl, rfl, rfl⟩ rfl rfl rfl rfl rfl (by kernel_rfl) Tryz.func8 (by kernel_rfl)
    (of_decide_eq_true (by kernel_rfl)) (by unfold Func.isWrapper; first | (rw [if_pos (by decide +kernel)]; kernel_rfl) | (rw [if_neg (by decide +kernel)]; exact ⟨rfl, rfl⟩))
    (fun os started H enc _ F => by rw [OpenClaim.pre_eq_preRow]; exact lifted os started H enc F)

theorem plain (f : FuncId) (fn : Func) (hf : Tryz.pinned.checked.prog.funcNamed Tryz.f8.name = some f) (hfn : Tryz.pinned.checked.prog.funcs[f]? = some fn) :
    true = Tryz.pinned.checked.prog.looks [] ∧ ∀ (j : Nat) t, fn.params[j]? = some t → Tryz.pinned.checked.prog.wantsStandIn t = false := by
  obtain rfl : f = 8 := Option.some.inj ((show Tryz.prog.funcNamed Tryz.f8.name = some 8 by kernel_rfl).symm.trans hf) |>.symm
  obtain rfl : fn = Tryz.f8 := (Option.some.inj (Tryz.func8.symm.trans hfn)).symm
  refine ⟨by kernel_rfl, fun j t ht => ?_⟩
  have key : Tryz.f8.params.all (fun t => !Tryz.prog.wantsStandIn t) = true := by kernel_rfl
  have h2 := Array.all_eq_true_iff_forall_mem.1 key t (Array.mem_of_getElem? ht)
  rw [Bool.not_eq_true'] at h2
  exact h2

theorem proved : Rows.OpPlansCardSaid :=
  Claim7.holds_tied_plain_at .later [] _ _ _ _ said (fun _ h => by cases h) (by kernel_rfl) (fun _ h => by cases h) opPlans_row_tie rfl ⟨rfl, rfl⟩ (by kernel_rfl) rfl plain (by kernel_rfl)
end Go.Proofs.YtlmbcclggaflaaaGreatDoor.lawOpPlans
