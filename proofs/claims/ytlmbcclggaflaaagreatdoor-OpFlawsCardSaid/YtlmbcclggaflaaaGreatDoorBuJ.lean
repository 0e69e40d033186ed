/-
  OpFlaws: the walk, part a.
  Conditions: as each theorem says (bytes: at most 100,000; the library's tables and variables lie in the world).
-/
import Derived.Test.YtlmbcclggaflaaaGreatDoorBuI
set_option linter.unusedVariables false
namespace Go.Proofs.YtlmbcclggaflaaaGreatDoor
open Go Go.RowKit

set_option maxRecDepth 100000 in
set_option maxHeartbeats 60000000 in
theorem flaws_0 (K Y Q T : Nat) (u : Value) (l : List UInt8) (hn : numOK K Y Q T) (q : Int) (hq : (Lit.int .u8 q).wf = true) (n : Int) (hn2 : (Lit.int .u16 n).wf = true) (hr : q % 8 = 0) (m : Int) (w : World) (hu : BytesAt w u l) (ht : Tab w) (he : Errs w) (hm : w.cell? ⟨0, 0, none⟩ = some (.int .i64 m)) :
    Calls Tryz.prog 3 #[numV K Y Q T u, .int .u8 q, .int .u16 n] w fun e w' => e = .returned (.bool true) ∧ Below w.heap.size w w' := by
  have r1 : IntKind.u8.min = 0 := rfl
  have r2 : IntKind.u8.max = 255 := rfl
  have r3 : IntKind.u16.min = 0 := rfl
  have r4 : IntKind.u16.max = 65535 := rfl
  have hq1 : 0 ≤ q ∧ q ≤ 255 := by simpa [Lit.wf, r1, r2] using hq
  have hn1 : 0 ≤ n ∧ n ≤ 65535 := by simpa [Lit.wf, r3, r4] using hn2
  clear r1 r2 r3 r4 hq hn2
  obtain ⟨N, rfl⟩ : ∃ N : Nat, n = (N : Int) := ⟨n.toNat, by omega⟩
  have HE : Hid (Env m w) := ⟨ht, he, hm⟩
  have HN := Lib.hid hn
  obtain ⟨k, a, b, x, v, ho, hg, hf⟩ := made_op K Y Q T l
  have hsz := made_size K Y Q T l k a b x v ho
  have HO := Lib.hid ho
  have HG := Lib.hid hg
  have HF := Lib.hid hf
  have HSZ := Lib.hid hsz
  have c1 := Lib.hid ((Below.refl w.heap.size w).alloc (Nat.le_refl _) (.cells #[.int .u8 K, .int .u8 Y, .int .u8 Q, .int .u32 T, u] 25))
  have HU := Lib.hid (hu.below c1.out)
  obtain ⟨n0, n1, n2, n3, n4⟩ := NumBox.new w K Y Q T u 25
  clear ht he hm hn hu ho hg hf hsz
  go_enter Tryz.func3, Tryz.ntmps3
  go_wp2_with fail
  generalize (w.alloc (.cells #[.int .u8 K, .int .u8 Y, .int .u8 Q, .int .u32 T, u] 25)) = w0 at *
  refine (made_is K Y Q T HN.out u l _ HU.out (HE.out.below c1.out).1 k a b x v HO.out).mono ?_
  rintro e w1 ⟨rfl, b1⟩
  have c2 := Lib.hid (c1.out.trans (b1.mono c1.out.size))
  clear c1
  have c1 := Lib.hid c2.out
  clear c2
  clear b1 n0 n1 n2 n3 n4 HO HU HN
  obtain ⟨⟨z0, z1, z2, z3, z4⟩, zf⟩ := OpBox.new w1 k a b x v 28
  clear zf
  go_upto_region 3 with fail
  clear z0 z1 z2 z3 z4
  have HC := Lib.hid ((OpBox.new w1 k a b x v 28).below ((Below.refl _ _).alloc (Nat.le_refl _) (.cells #[.int .i64 k, .int .i64 a, .int .i64 b, .string x, .string v] 28)))
  have HD := Lib.hid (OpBox.new2 w1 k a b x v k a b x v 28 28)
  have HLT := Lib.hid c1.out.size
  have b1 := below2 w1 (.cells #[.int .i64 k, .int .i64 a, .int .i64 b, .string x, .string v] 28) (.cells #[.int .i64 k, .int .i64 a, .int .i64 b, .string x, .string v] 28)
  have c2 := Lib.hid (c1.out.trans (b1.mono c1.out.size))
  clear c1
  have c1 := Lib.hid c2.out
  clear c2
  clear b1
  generalize ((w1.alloc (.cells #[.int .i64 k, .int .i64 a, .int .i64 b, .string x, .string v] 28)).alloc (.cells #[.int .i64 k, .int .i64 a, .int .i64 b, .string x, .string v] 28)) = w2 at *
  obtain ⟨C, hC⟩ : ∃ C, w1.heap.size = C := ⟨_, rfl⟩
  rw [hC] at HC HD HLT
  rw [hC]
  clear hC
  obtain ⟨⟨v0, v1, v2, v3, v4⟩, vf⟩ := HD.out
  have vf0 := vf 0
  have vf1 := vf 1
  have vf2 := vf 2
  have vf3 := vf 3
  have vf4 := vf 4
  clear vf
  go_upto_region 23 with fail
  have hX := Lib.hid (flaw_set HC.out c1.out HLT.out 0 (.int .i64 (9 + (N : Int))))
  have hY := Lib.hid (HD.out.set0 (9 + (N : Int)))
  have HBG : Hid (¬ opGood ⟨(9 + (N : Int)), a, b, x, v⟩) := flaw_kind (Or.inr (by omega))
  have HBF : Hid (opFit ⟨(9 + (N : Int)), a, b, x, v⟩) := by
    have hs1 := HSZ.out
    refine ⟨⟨?_, ?_⟩, ?_, ?_⟩
    all_goals
      dsimp only
      try simp only [rep_size]
      first | omega | (show (_ : Nat) ≤ _; decide)
  clear v0 v1 v2 v3 v4 vf0 vf1 vf2 vf3 vf4
  clear c1 HC HD
  have c1 := Lib.hid hX.out.2
  have HC := Lib.hid hX.out.1
  clear hX
  have HD := Lib.hid hY.out
  clear hY
  obtain ⟨⟨k0, k1, k2, k3, k4⟩, kf⟩ := HD.out
  clear kf
  go_wp2_with fail
  refine (print_any (9 + (N : Int)) a b x v HBF.out m _ (HE.out.below c1.out)).mono ?_
  rw [(pr_bad HBG.out).1, (pr_bad HBG.out).2, show eB = (⟨#[]⟩ : ByteArray) from rfl]
  rintro e w5 ⟨rfl, b1⟩
  have c2 := Lib.hid (c1.out.trans (b1.mono c1.out.size))
  clear c1
  have c1 := Lib.hid c2.out
  clear c2
  have hh := Lib.hid (HC.out.below b1)
  clear HC
  have HC := Lib.hid hh.out
  clear hh
  have hh := Lib.hid (HD.out.below b1)
  clear HD
  have HD := Lib.hid hh.out
  clear hh
  clear b1 k0 k1 k2 k3 k4
  obtain ⟨⟨k0, k1, k2, k3, k4⟩, kf⟩ := HD.out
  obtain ⟨⟨j0, j1, j2, j3, j4⟩, jf⟩ := HC.out
  clear kf jf
  have HO2 := Lib.hid (OpsAt.two w5 ⟨k, a, b, x, v⟩ ⟨(9 + (N : Int)), a, b, x, v⟩ 28)
  have b1 := (Below.refl w5.heap.size w5).alloc (Nat.le_refl _) (.cells #[.int .i64 k, .int .i64 a, .int .i64 b, .string x, .string v, .int .i64 (9 + (N : Int)), .int .i64 a, .int .i64 b, .string x, .string v] 28)
  go_wp2_with fail
  have c2 := Lib.hid (c1.out.trans (b1.mono c1.out.size))
  clear c1
  have c1 := Lib.hid c2.out
  clear c2
  have hh := Lib.hid (HC.out.below b1)
  clear HC
  have HC := Lib.hid hh.out
  clear hh
  have hh := Lib.hid (HD.out.below b1)
  clear HD
  have HD := Lib.hid hh.out
  clear hh
  clear b1 k0 k1 k2 k3 k4 j0 j1 j2 j3 j4
  refine (printAll_any _ [⟨k, a, b, x, v⟩, ⟨(9 + (N : Int)), a, b, x, v⟩] (fun o ho => by simp only [List.mem_cons, List.not_mem_nil, or_false] at ho; rcases ho with rfl | rfl; exact HF.out; exact HBF.out) (by simp) m _ (HE.out.below c1.out) HO2.out).mono ?_
  rw [(pa_arg (L := [⟨k, a, b, x, v⟩, ⟨(9 + (N : Int)), a, b, x, v⟩]) (by simp) (by simp) HBG.out).1, (pa_arg (L := [⟨k, a, b, x, v⟩, ⟨(9 + (N : Int)), a, b, x, v⟩]) (by simp) (by simp) HBG.out).2, show eB = (⟨#[]⟩ : ByteArray) from rfl]
  rintro e w6 ⟨rfl, b1⟩
  have c2 := Lib.hid (c1.out.trans (b1.mono c1.out.size))
  clear c1
  have c1 := Lib.hid c2.out
  clear c2
  have hh := Lib.hid (HC.out.below b1)
  clear HC
  have HC := Lib.hid hh.out
  clear hh
  have hh := Lib.hid (HD.out.below b1)
  clear HD
  have HD := Lib.hid hh.out
  clear hh
  clear b1 HO2
  obtain ⟨⟨k0, k1, k2, k3, k4⟩, kf⟩ := HD.out
  clear kf
  go_wp2_with fail
  refine (oplan_bad (9 + (N : Int)) a b x v HBF.out (fun h => HBG.out h.1) m _ (HE.out.below c1.out)).mono ?_
  rintro e w7 ⟨rfl, b1⟩
  have c2 := Lib.hid (c1.out.trans (b1.mono c1.out.size))
  clear c1
  have c1 := Lib.hid c2.out
  clear c2
  have hh := Lib.hid (HD.out.below b1)
  clear HD
  have HD := Lib.hid hh.out
  clear hh
  clear b1 k0 k1 k2 k3 k4 HC
  have b1 := (Below.refl w7.heap.size w7).alloc (Nat.le_refl _) (.cells #[.int .i64 0, .bool false, .slice none 0 0] 38)
  have HP := Lib.hid (PlanAt.new w7 0 false (.slice none 0 0) 38)
  have c2 := Lib.hid (c1.out.trans (b1.mono c1.out.size))
  clear c1
  have c1 := Lib.hid c2.out
  clear c2
  have hh := Lib.hid (HD.out.below b1)
  clear HD
  have HD := Lib.hid hh.out
  clear hh
  clear b1
  obtain ⟨⟨k0, k1, k2, k3, k4⟩, kf⟩ := HD.out
  clear kf
  go_wp2_with fail
  generalize (w7.alloc (.cells #[.int .i64 0, .bool false, .slice none 0 0] 38)) = w8 at *
  obtain ⟨F, hF⟩ : ∃ F, w7.heap.size = F := ⟨_, rfl⟩
  rw [hF] at HP
  rw [hF]
  clear hF
  refine (check_any39 (9 + (N : Int)) a b x v HBF.out m _ (HE.out.below c1.out)).mono ?_
  rw [(pr_bad HBG.out).2]
  rintro e w9 ⟨rfl, b1⟩
  have c2 := Lib.hid (c1.out.trans (b1.mono c1.out.size))
  clear c1
  have c1 := Lib.hid c2.out
  clear c2
  have hh := Lib.hid (HP.out.below b1)
  clear HP
  have HP := Lib.hid hh.out
  clear hh
  clear b1 k0 k1 k2 k3 k4 HD
  obtain ⟨⟨p0, p1, p2⟩, pf⟩ := HP.out
  clear pf
  go_wp2_with fail
  refine (works39_any m _ (HE.out.below c1.out)).mono ?_
  rintro e w10 ⟨rfl, b1⟩
  have c2 := Lib.hid (c1.out.trans (b1.mono c1.out.size))
  clear c1
  have c1 := Lib.hid c2.out
  clear c2
  clear b1 p0 p1 p2 HP
  go_wp2_with fail
  go_ret
  exact ⟨rfl, c1.out⟩
set_option maxRecDepth 100000 in
set_option maxHeartbeats 60000000 in
theorem flaws_1 (K Y Q T : Nat) (u : Value) (l : List UInt8) (hn : numOK K Y Q T) (q : Int) (hq : (Lit.int .u8 q).wf = true) (n : Int) (hn2 : (Lit.int .u16 n).wf = true) (hr : q % 8 = 1) (m : Int) (w : World) (hu : BytesAt w u l) (ht : Tab w) (he : Errs w) (hm : w.cell? ⟨0, 0, none⟩ = some (.int .i64 m)) :
    Calls Tryz.prog 3 #[numV K Y Q T u, .int .u8 q, .int .u16 n] w fun e w' => e = .returned (.bool true) ∧ Below w.heap.size w w' := by
  have r1 : IntKind.u8.min = 0 := rfl
  have r2 : IntKind.u8.max = 255 := rfl
  have r3 : IntKind.u16.min = 0 := rfl
  have r4 : IntKind.u16.max = 65535 := rfl
  have hq1 : 0 ≤ q ∧ q ≤ 255 := by simpa [Lit.wf, r1, r2] using hq
  have hn1 : 0 ≤ n ∧ n ≤ 65535 := by simpa [Lit.wf, r3, r4] using hn2
  clear r1 r2 r3 r4 hq hn2
  obtain ⟨N, rfl⟩ : ∃ N : Nat, n = (N : Int) := ⟨n.toNat, by omega⟩
  have HE : Hid (Env m w) := ⟨ht, he, hm⟩
  have HN := Lib.hid hn
  obtain ⟨k, a, b, x, v, ho, hg, hf⟩ := made_op K Y Q T l
  have hsz := made_size K Y Q T l k a b x v ho
  have HO := Lib.hid ho
  have HG := Lib.hid hg
  have HF := Lib.hid hf
  have HSZ := Lib.hid hsz
  have c1 := Lib.hid ((Below.refl w.heap.size w).alloc (Nat.le_refl _) (.cells #[.int .u8 K, .int .u8 Y, .int .u8 Q, .int .u32 T, u] 25))
  have HU := Lib.hid (hu.below c1.out)
  obtain ⟨n0, n1, n2, n3, n4⟩ := NumBox.new w K Y Q T u 25
  clear ht he hm hn hu ho hg hf hsz
  go_enter Tryz.func3, Tryz.ntmps3
  go_wp2_with fail
  generalize (w.alloc (.cells #[.int .u8 K, .int .u8 Y, .int .u8 Q, .int .u32 T, u] 25)) = w0 at *
  refine (made_is K Y Q T HN.out u l _ HU.out (HE.out.below c1.out).1 k a b x v HO.out).mono ?_
  rintro e w1 ⟨rfl, b1⟩
  have c2 := Lib.hid (c1.out.trans (b1.mono c1.out.size))
  clear c1
  have c1 := Lib.hid c2.out
  clear c2
  clear b1 n0 n1 n2 n3 n4 HO HU HN
  obtain ⟨⟨z0, z1, z2, z3, z4⟩, zf⟩ := OpBox.new w1 k a b x v 28
  clear zf
  go_upto_region 3 with fail
  clear z0 z1 z2 z3 z4
  have HC := Lib.hid ((OpBox.new w1 k a b x v 28).below ((Below.refl _ _).alloc (Nat.le_refl _) (.cells #[.int .i64 k, .int .i64 a, .int .i64 b, .string x, .string v] 28)))
  have HD := Lib.hid (OpBox.new2 w1 k a b x v k a b x v 28 28)
  have HLT := Lib.hid c1.out.size
  have b1 := below2 w1 (.cells #[.int .i64 k, .int .i64 a, .int .i64 b, .string x, .string v] 28) (.cells #[.int .i64 k, .int .i64 a, .int .i64 b, .string x, .string v] 28)
  have c2 := Lib.hid (c1.out.trans (b1.mono c1.out.size))
  clear c1
  have c1 := Lib.hid c2.out
  clear c2
  clear b1
  generalize ((w1.alloc (.cells #[.int .i64 k, .int .i64 a, .int .i64 b, .string x, .string v] 28)).alloc (.cells #[.int .i64 k, .int .i64 a, .int .i64 b, .string x, .string v] 28)) = w2 at *
  obtain ⟨C, hC⟩ : ∃ C, w1.heap.size = C := ⟨_, rfl⟩
  rw [hC] at HC HD HLT
  rw [hC]
  clear hC
  obtain ⟨⟨v0, v1, v2, v3, v4⟩, vf⟩ := HD.out
  have vf0 := vf 0
  have vf1 := vf 1
  have vf2 := vf 2
  have vf3 := vf 3
  have vf4 := vf 4
  clear vf
  go_upto_region 23 with fail
  have hX := Lib.hid (flaw_set HC.out c1.out HLT.out 0 (.int .i64 (-(N : Int))))
  have hY := Lib.hid (HD.out.set0 (-(N : Int)))
  have HBG : Hid (¬ opGood ⟨(-(N : Int)), a, b, x, v⟩) := flaw_kind (Or.inl (by omega))
  have HBF : Hid (opFit ⟨(-(N : Int)), a, b, x, v⟩) := by
    have hs1 := HSZ.out
    refine ⟨⟨?_, ?_⟩, ?_, ?_⟩
    all_goals
      dsimp only
      try simp only [rep_size]
      first | omega | (show (_ : Nat) ≤ _; decide)
  clear v0 v1 v2 v3 v4 vf0 vf1 vf2 vf3 vf4
  clear c1 HC HD
  have c1 := Lib.hid hX.out.2
  have HC := Lib.hid hX.out.1
  clear hX
  have HD := Lib.hid hY.out
  clear hY
  obtain ⟨⟨k0, k1, k2, k3, k4⟩, kf⟩ := HD.out
  clear kf
  go_wp2_with fail
  refine (print_any (-(N : Int)) a b x v HBF.out m _ (HE.out.below c1.out)).mono ?_
  rw [(pr_bad HBG.out).1, (pr_bad HBG.out).2, show eB = (⟨#[]⟩ : ByteArray) from rfl]
  rintro e w5 ⟨rfl, b1⟩
  have c2 := Lib.hid (c1.out.trans (b1.mono c1.out.size))
  clear c1
  have c1 := Lib.hid c2.out
  clear c2
  have hh := Lib.hid (HC.out.below b1)
  clear HC
  have HC := Lib.hid hh.out
  clear hh
  have hh := Lib.hid (HD.out.below b1)
  clear HD
  have HD := Lib.hid hh.out
  clear hh
  clear b1 k0 k1 k2 k3 k4
  obtain ⟨⟨k0, k1, k2, k3, k4⟩, kf⟩ := HD.out
  obtain ⟨⟨j0, j1, j2, j3, j4⟩, jf⟩ := HC.out
  clear kf jf
  have HO2 := Lib.hid (OpsAt.two w5 ⟨k, a, b, x, v⟩ ⟨(-(N : Int)), a, b, x, v⟩ 28)
  have b1 := (Below.refl w5.heap.size w5).alloc (Nat.le_refl _) (.cells #[.int .i64 k, .int .i64 a, .int .i64 b, .string x, .string v, .int .i64 (-(N : Int)), .int .i64 a, .int .i64 b, .string x, .string v] 28)
  go_wp2_with fail
  have c2 := Lib.hid (c1.out.trans (b1.mono c1.out.size))
  clear c1
  have c1 := Lib.hid c2.out
  clear c2
  have hh := Lib.hid (HC.out.below b1)
  clear HC
  have HC := Lib.hid hh.out
  clear hh
  have hh := Lib.hid (HD.out.below b1)
  clear HD
  have HD := Lib.hid hh.out
  clear hh
  clear b1 k0 k1 k2 k3 k4 j0 j1 j2 j3 j4
  refine (printAll_any _ [⟨k, a, b, x, v⟩, ⟨(-(N : Int)), a, b, x, v⟩] (fun o ho => by simp only [List.mem_cons, List.not_mem_nil, or_false] at ho; rcases ho with rfl | rfl; exact HF.out; exact HBF.out) (by simp) m _ (HE.out.below c1.out) HO2.out).mono ?_
  rw [(pa_arg (L := [⟨k, a, b, x, v⟩, ⟨(-(N : Int)), a, b, x, v⟩]) (by simp) (by simp) HBG.out).1, (pa_arg (L := [⟨k, a, b, x, v⟩, ⟨(-(N : Int)), a, b, x, v⟩]) (by simp) (by simp) HBG.out).2, show eB = (⟨#[]⟩ : ByteArray) from rfl]
  rintro e w6 ⟨rfl, b1⟩
  have c2 := Lib.hid (c1.out.trans (b1.mono c1.out.size))
  clear c1
  have c1 := Lib.hid c2.out
  clear c2
  have hh := Lib.hid (HC.out.below b1)
  clear HC
  have HC := Lib.hid hh.out
  clear hh
  have hh := Lib.hid (HD.out.below b1)
  clear HD
  have HD := Lib.hid hh.out
  clear hh
  clear b1 HO2
  obtain ⟨⟨k0, k1, k2, k3, k4⟩, kf⟩ := HD.out
  clear kf
  go_wp2_with fail
  refine (oplan_bad (-(N : Int)) a b x v HBF.out (fun h => HBG.out h.1) m _ (HE.out.below c1.out)).mono ?_
  rintro e w7 ⟨rfl, b1⟩
  have c2 := Lib.hid (c1.out.trans (b1.mono c1.out.size))
  clear c1
  have c1 := Lib.hid c2.out
  clear c2
  have hh := Lib.hid (HD.out.below b1)
  clear HD
  have HD := Lib.hid hh.out
  clear hh
  clear b1 k0 k1 k2 k3 k4 HC
  have b1 := (Below.refl w7.heap.size w7).alloc (Nat.le_refl _) (.cells #[.int .i64 0, .bool false, .slice none 0 0] 38)
  have HP := Lib.hid (PlanAt.new w7 0 false (.slice none 0 0) 38)
  have c2 := Lib.hid (c1.out.trans (b1.mono c1.out.size))
  clear c1
  have c1 := Lib.hid c2.out
  clear c2
  have hh := Lib.hid (HD.out.below b1)
  clear HD
  have HD := Lib.hid hh.out
  clear hh
  clear b1
  obtain ⟨⟨k0, k1, k2, k3, k4⟩, kf⟩ := HD.out
  clear kf
  go_wp2_with fail
  generalize (w7.alloc (.cells #[.int .i64 0, .bool false, .slice none 0 0] 38)) = w8 at *
  obtain ⟨F, hF⟩ : ∃ F, w7.heap.size = F := ⟨_, rfl⟩
  rw [hF] at HP
  rw [hF]
  clear hF
  refine (check_any39 (-(N : Int)) a b x v HBF.out m _ (HE.out.below c1.out)).mono ?_
  rw [(pr_bad HBG.out).2]
  rintro e w9 ⟨rfl, b1⟩
  have c2 := Lib.hid (c1.out.trans (b1.mono c1.out.size))
  clear c1
  have c1 := Lib.hid c2.out
  clear c2
  have hh := Lib.hid (HP.out.below b1)
  clear HP
  have HP := Lib.hid hh.out
  clear hh
  clear b1 k0 k1 k2 k3 k4 HD
  obtain ⟨⟨p0, p1, p2⟩, pf⟩ := HP.out
  clear pf
  go_wp2_with fail
  refine (works39_any m _ (HE.out.below c1.out)).mono ?_
  rintro e w10 ⟨rfl, b1⟩
  have c2 := Lib.hid (c1.out.trans (b1.mono c1.out.size))
  clear c1
  have c1 := Lib.hid c2.out
  clear c2
  clear b1 p0 p1 p2 HP
  go_wp2_with fail
  go_ret
  exact ⟨rfl, c1.out⟩
set_option maxRecDepth 100000 in
set_option maxHeartbeats 60000000 in
theorem flaws_2 (K Y Q T : Nat) (u : Value) (l : List UInt8) (hn : numOK K Y Q T) (q : Int) (hq : (Lit.int .u8 q).wf = true) (n : Int) (hn2 : (Lit.int .u16 n).wf = true) (hr : q % 8 = 2) (m : Int) (w : World) (hu : BytesAt w u l) (ht : Tab w) (he : Errs w) (hm : w.cell? ⟨0, 0, none⟩ = some (.int .i64 m)) :
    Calls Tryz.prog 3 #[numV K Y Q T u, .int .u8 q, .int .u16 n] w fun e w' => e = .returned (.bool true) ∧ Below w.heap.size w w' := by
  have r1 : IntKind.u8.min = 0 := rfl
  have r2 : IntKind.u8.max = 255 := rfl
  have r3 : IntKind.u16.min = 0 := rfl
  have r4 : IntKind.u16.max = 65535 := rfl
  have hq1 : 0 ≤ q ∧ q ≤ 255 := by simpa [Lit.wf, r1, r2] using hq
  have hn1 : 0 ≤ n ∧ n ≤ 65535 := by simpa [Lit.wf, r3, r4] using hn2
  clear r1 r2 r3 r4 hq hn2
  obtain ⟨N, rfl⟩ : ∃ N : Nat, n = (N : Int) := ⟨n.toNat, by omega⟩
  have HE : Hid (Env m w) := ⟨ht, he, hm⟩
  have HN := Lib.hid hn
  obtain ⟨k, a, b, x, v, ho, hg, hf⟩ := made_op K Y Q T l
  have hsz := made_size K Y Q T l k a b x v ho
  have HO := Lib.hid ho
  have HG := Lib.hid hg
  have HF := Lib.hid hf
  have HSZ := Lib.hid hsz
  have c1 := Lib.hid ((Below.refl w.heap.size w).alloc (Nat.le_refl _) (.cells #[.int .u8 K, .int .u8 Y, .int .u8 Q, .int .u32 T, u] 25))
  have HU := Lib.hid (hu.below c1.out)
  obtain ⟨n0, n1, n2, n3, n4⟩ := NumBox.new w K Y Q T u 25
  clear ht he hm hn hu ho hg hf hsz
  go_enter Tryz.func3, Tryz.ntmps3
  go_wp2_with fail
  generalize (w.alloc (.cells #[.int .u8 K, .int .u8 Y, .int .u8 Q, .int .u32 T, u] 25)) = w0 at *
  refine (made_is K Y Q T HN.out u l _ HU.out (HE.out.below c1.out).1 k a b x v HO.out).mono ?_
  rintro e w1 ⟨rfl, b1⟩
  have c2 := Lib.hid (c1.out.trans (b1.mono c1.out.size))
  clear c1
  have c1 := Lib.hid c2.out
  clear c2
  clear b1 n0 n1 n2 n3 n4 HO HU HN
  obtain ⟨⟨z0, z1, z2, z3, z4⟩, zf⟩ := OpBox.new w1 k a b x v 28
  clear zf
  go_upto_region 3 with fail
  clear z0 z1 z2 z3 z4
  have HC := Lib.hid ((OpBox.new w1 k a b x v 28).below ((Below.refl _ _).alloc (Nat.le_refl _) (.cells #[.int .i64 k, .int .i64 a, .int .i64 b, .string x, .string v] 28)))
  have HD := Lib.hid (OpBox.new2 w1 k a b x v k a b x v 28 28)
  have HLT := Lib.hid c1.out.size
  have b1 := below2 w1 (.cells #[.int .i64 k, .int .i64 a, .int .i64 b, .string x, .string v] 28) (.cells #[.int .i64 k, .int .i64 a, .int .i64 b, .string x, .string v] 28)
  have c2 := Lib.hid (c1.out.trans (b1.mono c1.out.size))
  clear c1
  have c1 := Lib.hid c2.out
  clear c2
  clear b1
  generalize ((w1.alloc (.cells #[.int .i64 k, .int .i64 a, .int .i64 b, .string x, .string v] 28)).alloc (.cells #[.int .i64 k, .int .i64 a, .int .i64 b, .string x, .string v] 28)) = w2 at *
  obtain ⟨C, hC⟩ : ∃ C, w1.heap.size = C := ⟨_, rfl⟩
  rw [hC] at HC HD HLT
  rw [hC]
  clear hC
  obtain ⟨⟨v0, v1, v2, v3, v4⟩, vf⟩ := HD.out
  have vf0 := vf 0
  have vf1 := vf 1
  have vf2 := vf 2
  have vf3 := vf 3
  have vf4 := vf 4
  clear vf
  go_upto_region 23 with fail
  have hX := Lib.hid (flaw_set HC.out c1.out HLT.out 1 (.int .i64 (1000001 + (N : Int))))
  have hY := Lib.hid (HD.out.set1 (1000001 + (N : Int)))
  have HBG : Hid (¬ opGood ⟨k, (1000001 + (N : Int)), b, x, v⟩) := flaw_a (Or.inr (by omega))
  have HBF : Hid (opFit ⟨k, (1000001 + (N : Int)), b, x, v⟩) := by
    have hs1 := HSZ.out
    refine ⟨⟨?_, ?_⟩, ?_, ?_⟩
    all_goals
      dsimp only
      try simp only [rep_size]
      first | omega | (show (_ : Nat) ≤ _; decide)
  clear v0 v1 v2 v3 v4 vf0 vf1 vf2 vf3 vf4
  clear c1 HC HD
  have c1 := Lib.hid hX.out.2
  have HC := Lib.hid hX.out.1
  clear hX
  have HD := Lib.hid hY.out
  clear hY
  obtain ⟨⟨k0, k1, k2, k3, k4⟩, kf⟩ := HD.out
  clear kf
  go_wp2_with fail
  refine (print_any k (1000001 + (N : Int)) b x v HBF.out m _ (HE.out.below c1.out)).mono ?_
  rw [(pr_bad HBG.out).1, (pr_bad HBG.out).2, show eB = (⟨#[]⟩ : ByteArray) from rfl]
  rintro e w5 ⟨rfl, b1⟩
  have c2 := Lib.hid (c1.out.trans (b1.mono c1.out.size))
  clear c1
  have c1 := Lib.hid c2.out
  clear c2
  have hh := Lib.hid (HC.out.below b1)
  clear HC
  have HC := Lib.hid hh.out
  clear hh
  have hh := Lib.hid (HD.out.below b1)
  clear HD
  have HD := Lib.hid hh.out
  clear hh
  clear b1 k0 k1 k2 k3 k4
  obtain ⟨⟨k0, k1, k2, k3, k4⟩, kf⟩ := HD.out
  obtain ⟨⟨j0, j1, j2, j3, j4⟩, jf⟩ := HC.out
  clear kf jf
  have HO2 := Lib.hid (OpsAt.two w5 ⟨k, a, b, x, v⟩ ⟨k, (1000001 + (N : Int)), b, x, v⟩ 28)
  have b1 := (Below.refl w5.heap.size w5).alloc (Nat.le_refl _) (.cells #[.int .i64 k, .int .i64 a, .int .i64 b, .string x, .string v, .int .i64 k, .int .i64 (1000001 + (N : Int)), .int .i64 b, .string x, .string v] 28)
  go_wp2_with fail
  have c2 := Lib.hid (c1.out.trans (b1.mono c1.out.size))
  clear c1
  have c1 := Lib.hid c2.out
  clear c2
  have hh := Lib.hid (HC.out.below b1)
  clear HC
  have HC := Lib.hid hh.out
  clear hh
  have hh := Lib.hid (HD.out.below b1)
  clear HD
  have HD := Lib.hid hh.out
  clear hh
  clear b1 k0 k1 k2 k3 k4 j0 j1 j2 j3 j4
  refine (printAll_any _ [⟨k, a, b, x, v⟩, ⟨k, (1000001 + (N : Int)), b, x, v⟩] (fun o ho => by simp only [List.mem_cons, List.not_mem_nil, or_false] at ho; rcases ho with rfl | rfl; exact HF.out; exact HBF.out) (by simp) m _ (HE.out.below c1.out) HO2.out).mono ?_
  rw [(pa_arg (L := [⟨k, a, b, x, v⟩, ⟨k, (1000001 + (N : Int)), b, x, v⟩]) (by simp) (by simp) HBG.out).1, (pa_arg (L := [⟨k, a, b, x, v⟩, ⟨k, (1000001 + (N : Int)), b, x, v⟩]) (by simp) (by simp) HBG.out).2, show eB = (⟨#[]⟩ : ByteArray) from rfl]
  rintro e w6 ⟨rfl, b1⟩
  have c2 := Lib.hid (c1.out.trans (b1.mono c1.out.size))
  clear c1
  have c1 := Lib.hid c2.out
  clear c2
  have hh := Lib.hid (HC.out.below b1)
  clear HC
  have HC := Lib.hid hh.out
  clear hh
  have hh := Lib.hid (HD.out.below b1)
  clear HD
  have HD := Lib.hid hh.out
  clear hh
  clear b1 HO2
  obtain ⟨⟨k0, k1, k2, k3, k4⟩, kf⟩ := HD.out
  clear kf
  go_wp2_with fail
  refine (oplan_bad k (1000001 + (N : Int)) b x v HBF.out (fun h => HBG.out h.1) m _ (HE.out.below c1.out)).mono ?_
  rintro e w7 ⟨rfl, b1⟩
  have c2 := Lib.hid (c1.out.trans (b1.mono c1.out.size))
  clear c1
  have c1 := Lib.hid c2.out
  clear c2
  have hh := Lib.hid (HD.out.below b1)
  clear HD
  have HD := Lib.hid hh.out
  clear hh
  clear b1 k0 k1 k2 k3 k4 HC
  have b1 := (Below.refl w7.heap.size w7).alloc (Nat.le_refl _) (.cells #[.int .i64 0, .bool false, .slice none 0 0] 38)
  have HP := Lib.hid (PlanAt.new w7 0 false (.slice none 0 0) 38)
  have c2 := Lib.hid (c1.out.trans (b1.mono c1.out.size))
  clear c1
  have c1 := Lib.hid c2.out
  clear c2
  have hh := Lib.hid (HD.out.below b1)
  clear HD
  have HD := Lib.hid hh.out
  clear hh
  clear b1
  obtain ⟨⟨k0, k1, k2, k3, k4⟩, kf⟩ := HD.out
  clear kf
  go_wp2_with fail
  generalize (w7.alloc (.cells #[.int .i64 0, .bool false, .slice none 0 0] 38)) = w8 at *
  obtain ⟨F, hF⟩ : ∃ F, w7.heap.size = F := ⟨_, rfl⟩
  rw [hF] at HP
  rw [hF]
  clear hF
  refine (check_any39 k (1000001 + (N : Int)) b x v HBF.out m _ (HE.out.below c1.out)).mono ?_
  rw [(pr_bad HBG.out).2]
  rintro e w9 ⟨rfl, b1⟩
  have c2 := Lib.hid (c1.out.trans (b1.mono c1.out.size))
  clear c1
  have c1 := Lib.hid c2.out
  clear c2
  have hh := Lib.hid (HP.out.below b1)
  clear HP
  have HP := Lib.hid hh.out
  clear hh
  clear b1 k0 k1 k2 k3 k4 HD
  obtain ⟨⟨p0, p1, p2⟩, pf⟩ := HP.out
  clear pf
  go_wp2_with fail
  refine (works39_any m _ (HE.out.below c1.out)).mono ?_
  rintro e w10 ⟨rfl, b1⟩
  have c2 := Lib.hid (c1.out.trans (b1.mono c1.out.size))
  clear c1
  have c1 := Lib.hid c2.out
  clear c2
  clear b1 p0 p1 p2 HP
  go_wp2_with fail
  go_ret
  exact ⟨rfl, c1.out⟩
end Go.Proofs.YtlmbcclggaflaaaGreatDoor
