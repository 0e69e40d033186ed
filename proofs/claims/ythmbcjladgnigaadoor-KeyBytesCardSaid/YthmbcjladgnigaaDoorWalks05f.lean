/-
  The walk of KeyBytes.
  Conditions: the library's table lies in the world.
-/
import Derived.Test.YthmbcjladgnigaaDoorWalks05b
import Derived.RegionTactic
import Derived.ChangeAlike
import Derived.Deep.RegionHeld3
set_option linter.unusedVariables false
namespace Go.Proofs.YthmbcjladgnigaaDoor
open Go Go.RowKit

set_option maxRecDepth 100000 in
set_option maxHeartbeats 8000000 in
theorem walkKeyBytes (w : World) (v : Value) (l : List UInt8) (hv : BytesAt w v l) (a : Int) (ha : (Lit.int .u8 a).wf = true) (b : Int) (hb : (Lit.int .u8 b).wf = true) (d : Int) (hd : (Lit.int .u8 d).wf = true) (ht : Tab w) :
    Calls Tryd.prog 8 #[v, .int .u8 a, .int .u8 b, .int .u8 d] w fun e w' => e = .returned (.bool true) ∧ Below w.heap.size w w' := by
  have ha2 : 0 ≤ a ∧ a ≤ 255 := by have e1 : IntKind.u8.min = 0 := rfl; have e2 : IntKind.u8.max = 255 := rfl; simp [Lit.wf, e1, e2] at ha; omega
  have hb2 : 0 ≤ b ∧ b ≤ 255 := by have e1 : IntKind.u8.min = 0 := rfl; have e2 : IntKind.u8.max = 255 := rfl; simp [Lit.wf, e1, e2] at hb; omega
  have hd2 : 0 ≤ d ∧ d ≤ 255 := by have e1 : IntKind.u8.min = 0 := rfl; have e2 : IntKind.u8.max = 255 := rfl; simp [Lit.wf, e1, e2] at hd; omega
  obtain ⟨c, rfl⟩ : ∃ c : UInt8, a = (c.toNat : Int) := ⟨UInt8.ofNat a.toNat, by rw [UInt8.toNat_ofNat']; omega⟩
  obtain ⟨S, hS⟩ : ∃ S : ByteArray, S.data.toList = madeL l := ⟨⟨(madeL l).toArray⟩, rfl⟩
  have HS := Lib.hid hS
  have kS : keyV S.data.toList = 0 := by rw [hS]; exact madeL_key l
  obtain ⟨z1, z2, z3⟩ := keyV_zero kS
  rw [str_len] at z2 z3
  obtain ⟨K, hK⟩ : ∃ K : Nat, (K : Int) = b % ((S.size : Int) + 1) := ⟨(b % ((S.size : Int) + 1)).toNat, by have := Int.emod_nonneg b (show ((S.size : Int) + 1) ≠ 0 by omega); omega⟩
  have hK2 : K ≤ S.size := by have := Int.emod_lt_of_pos b (show 0 < ((S.size : Int) + 1) by omega); omega
  have q1 : b.tmod ((S.size : Int) + 1) = (K : Int) := by rw [Int.tmod_eq_emod_of_nonneg (by omega)]; omega
  have q1b : b % ((S.size : Int) + 1) = (K : Int) := hK.symm
  obtain ⟨m, hm⟩ : ∃ m : Nat, (m : Int) = d % 32 := ⟨(d % 32).toNat, by omega⟩
  have hm2 : m < 32 := by omega
  have q2 : d.tmod 32 = (m : Int) := by rw [Int.tmod_eq_emod_of_nonneg (by omega)]; omega
  have q2b : d % 32 = (m : Int) := hm.symm
  have q3 : IntKind.u8.wrap (m : Int) = (m : Int) := by rw [IntKind.wrap_u8]; omega
  have q4 : IntKind.i64.wrap b = b := IntWalk.i64_in _ (by omega)
  have HT := Lib.hid ht
  have HV := Lib.hid hv
  have is1 : ∀ wx, (Instr.slice 9 (.string S) none (some (.int .i64 (K : Int))) none).run Tryd.prog wx = .ok (.string (S.extract 0 K)) wx := fun wx => by
    rw [run_slice_string_h wx 9 S Tryd.underlying9 .i64 (K : Int) (by omega) (by omega), Int.toNat_natCast]
  have is2 : ∀ wx, (Instr.slice 9 (.string S) (some (.int .i64 (K : Int))) none none).run Tryd.prog wx = .ok (.string (S.extract K S.size)) wx := fun wx => by
    rw [run_slice_string_l wx 9 S Tryd.underlying9 .i64 (K : Int) (by omega) (by omega), Int.toNat_natCast]
  have hx8 : c.toNat < 256 := c.toNat_lt
  have hs1 : (⟨[c].toArray⟩ : ByteArray).size = 1 := rfl
  have hs2 : (S.extract 0 K).size = K := by rw [ByteArray.size_extract]; omega
  have hs3 : (S.extract K S.size).size = S.size - K := by rw [ByteArray.size_extract]; omega
  obtain ⟨T, hT⟩ : ∃ T : ByteArray, (S.extract 0 K ++ ⟨[c].toArray⟩ ++ S.extract K S.size : ByteArray) = T := ⟨_, rfl⟩
  have hTs : T.size = S.size + 1 := by rw [← hT, ByteArray.size_append, ByteArray.size_append, hs1, hs2, hs3]; omega
  have hs4 : (S.extract 0 K ++ ⟨[c].toArray⟩ : ByteArray).size = K + 1 := by rw [ByteArray.size_append, hs1, hs2]
  have hTl : T.data.toList = S.data.toList.take K ++ c :: S.data.toList.drop K := by
    rw [← hT, str_ext]
    have e : (S.extract K S.size).data.toList = S.data.toList.drop K := by
      rw [ByteArray.data_extract, Array.toList_extract, List.extract, List.take_of_length_le (by rw [List.length_drop, str_len]; omega)]
    simp
    exact List.take_of_length_le (by rw [List.length_drop, str_len]; omega)
  have hTk : T.data.toList.all isKey = isKey c := by
    rw [hTl, List.all_append, List.all_cons]
    have g1 : (S.data.toList.take K).all isKey = true := by
      rw [List.all_eq_true] at z1 ⊢
      exact fun x hx => z1 x (List.mem_of_mem_take hx)
    have g2 : (S.data.toList.drop K).all isKey = true := by
      rw [List.all_eq_true] at z1 ⊢
      exact fun x hx => z1 x (List.mem_of_mem_drop hx)
    rw [g1, g2, Bool.true_and, Bool.and_true]
  have hTlen : T.data.toList.length = S.size + 1 := by rw [str_len, hTs]
  obtain ⟨q, hq⟩ : ∃ q, Lib.indexByte keyL c = q := ⟨_, rfl⟩
  have HQ := Lib.hid hq
  have HKS := Lib.hid kS
  have HSz : Hid (S.size ≤ 1099511627776 ∧ T.size ≤ 1099511627776) := ⟨by omega, by omega⟩
  have hm1 : IntKind.i64.wrap (1 + (m : Int)) = 1 + (m : Int) := IntWalk.i64_in _ (by omega)
  -- the two answers
  have hw : ∃ want : Int, Hid (keyV T.data.toList = want) ∧ Hid (want ≠ 0 → kfitsV T.data.toList (1 + (m : Int)) = want) ∧
      ((want = 2 ∧ decide (q < 0) = true) ∨ (want = 12 ∧ decide (q < 0) = false ∧ decide ((32 : Int) < (T.size : Int)) = true) ∨ (want = 0 ∧ decide (q < 0) = false ∧ decide ((32 : Int) < (T.size : Int)) = false)) := by
    have hf : ∀ x, keyV T.data.toList = x → x ≠ 0 → kfitsV T.data.toList (1 + (m : Int)) = x := fun x hx h0 => by
      unfold kfitsV
      rw [if_neg (by omega), if_neg (by rw [hx]; exact h0), hx]
    rcases hk : isKey c with _ | _
    · have h2 : keyV T.data.toList = 2 := keyV_bad (by rw [hTk, hk])
      refine ⟨2, h2, hf 2 h2, Or.inl ⟨rfl, ?_⟩⟩
      unfold isKey at hk
      rw [hq, decide_eq_false_iff_not] at hk
      rw [decide_eq_true_iff]; omega
    · have hq0 : decide (q < 0) = false := by
        unfold isKey at hk
        rw [hq, decide_eq_true_iff] at hk
        rw [decide_eq_false_iff_not]; omega
      by_cases h32 : 32 < T.size
      · have h2 : keyV T.data.toList = 12 := keyV_large (by rw [hTk, hk]) (by omega)
        exact ⟨12, h2, hf 12 h2, Or.inr (Or.inl ⟨rfl, hq0, by rw [decide_eq_true_iff]; omega⟩)⟩
      · have h2 : keyV T.data.toList = 0 := keyV_ok (by rw [hTk, hk]) (by omega) (by omega)
        exact ⟨0, h2, hf 0 h2, Or.inr (Or.inr ⟨rfl, hq0, by rw [decide_eq_false_iff_not]; omega⟩)⟩
  have hfit : ∃ fits : Int, Hid (kfitsV S.data.toList (1 + (m : Int)) = fits) ∧ ((fits = 12 ∧ decide (1 + (m : Int) < (S.size : Int)) = true) ∨ (fits = 0 ∧ decide (1 + (m : Int) < (S.size : Int)) = false)) := by
    have hl : S.data.toList.length = S.size := str_len S
    by_cases h : 1 + (m : Int) < (S.size : Int)
    · refine ⟨12, ?_, Or.inl ⟨rfl, by rw [decide_eq_true_iff]; exact h⟩⟩
      show _ = _
      unfold kfitsV
      rw [if_neg (by omega), if_pos kS, hl, if_pos h]
    · refine ⟨0, ?_, Or.inr ⟨rfl, by rw [decide_eq_false_iff_not]; exact h⟩⟩
      show _ = _
      unfold kfitsV
      rw [if_neg (by omega), if_pos kS, hl, if_neg h]
  obtain ⟨want, HW, HF, hw⟩ := hw
  obtain ⟨fits, HF2, hfit⟩ := hfit
  have hTb : T.size ≤ 33 := by omega
  clear ha hb hd ha2 hd2 hK hm ht hv hS z1 kS hTl hTk hTlen hq hTs
  rcases hw with ⟨rfl, g1⟩ | ⟨rfl, g1, g2⟩ | ⟨rfl, g1, g2⟩
  · rcases hfit with ⟨rfl, g3⟩ | ⟨rfl, g3⟩
    all_goals
      go_enter Tryd.func8, Tryd.ntmps8
      go_wp2_with fail
      refine (made_is _ l S HS.out _ HV.out).mono ?_
      rintro e w1 ⟨rfl, c1⟩
      go_wp2_with fail
      have hcv : (convert 33 9 (.slice (some ⟨w1.heap.size, 0, none⟩) 1 1)).run Tryd.prog (w1.alloc (.cells #[.int .u8 (c.toNat : Int)] 5)).drew = .ok (.string ⟨[c].toArray⟩) (w1.alloc (.cells #[.int .u8 (c.toNat : Int)] 5)).drew :=
        (bytesAt_one w1 c (c.toNat : Int) rfl 5).drew.convert (P := Tryd.prog) 33 9 5 Tryd.underlying33 Tryd.underlying5 Tryd.underlying9
      go_region
      have c2 : Below w.heap.size w (w1.alloc (.cells #[.int .u8 (c.toNat : Int)] 5)).drew := (c1.alloc c1.size _).drew
      generalize (w1.alloc (.cells #[.int .u8 (c.toNat : Int)] 5)).drew = w2 at *
      clear hcv c1
      have c1 := c2
      clear c2
      go_wp2_with fail
      refine (keeps (ixb keyS c _)).mono ?_
      rw [keyS_list, HQ.out]
      rintro e w3 ⟨rfl, rfl⟩
      go_wp2_with fail
      refine (kcheck_is S 0 HSz.out.1 HKS.out _).mono ?_
      rintro e w101 ⟨rfl, b1⟩
      have c2 := c1.trans (b1.mono c1.size); clear c1 b1
      have c1 := c2; clear c2
      go_wp2_with fail
      refine (kcheck_is T _ HSz.out.2 HW.out _).mono ?_
      rintro e w102 ⟨rfl, b1⟩
      have c2 := c1.trans (b1.mono c1.size); clear c1 b1
      have c1 := c2; clear c2
      go_wp2_with fail
      refine (kfits_is S _ _ HSz.out.1 HF2.out _).mono ?_
      rintro e w103 ⟨rfl, b1⟩
      have c2 := c1.trans (b1.mono c1.size); clear c1 b1
      have c1 := c2; clear c2
      go_wp2_with fail
      refine (kfits_is T _ _ HSz.out.2 (HF.out (by decide)) _).mono ?_
      rintro e w104 ⟨rfl, b1⟩
      have c2 := c1.trans (b1.mono c1.size); clear c1 b1
      have c1 := c2; clear c2
      go_wp2_with fail
      refine (works_any _ (HT.out.below c1)).mono ?_
      rintro e w105 ⟨rfl, b1⟩
      have c2 := c1.trans (b1.mono c1.size); clear c1 b1
      have c1 := c2; clear c2
      go_wp2_with fail
      go_ret
      exact ⟨rfl, c1⟩
  · rcases hfit with ⟨rfl, g3⟩ | ⟨rfl, g3⟩
    all_goals
      go_enter Tryd.func8, Tryd.ntmps8
      go_wp2_with fail
      refine (made_is _ l S HS.out _ HV.out).mono ?_
      rintro e w1 ⟨rfl, c1⟩
      go_wp2_with fail
      have hcv : (convert 33 9 (.slice (some ⟨w1.heap.size, 0, none⟩) 1 1)).run Tryd.prog (w1.alloc (.cells #[.int .u8 (c.toNat : Int)] 5)).drew = .ok (.string ⟨[c].toArray⟩) (w1.alloc (.cells #[.int .u8 (c.toNat : Int)] 5)).drew :=
        (bytesAt_one w1 c (c.toNat : Int) rfl 5).drew.convert (P := Tryd.prog) 33 9 5 Tryd.underlying33 Tryd.underlying5 Tryd.underlying9
      go_region
      have c2 : Below w.heap.size w (w1.alloc (.cells #[.int .u8 (c.toNat : Int)] 5)).drew := (c1.alloc c1.size _).drew
      generalize (w1.alloc (.cells #[.int .u8 (c.toNat : Int)] 5)).drew = w2 at *
      clear hcv c1
      have c1 := c2
      clear c2
      go_wp2_with fail
      refine (keeps (ixb keyS c _)).mono ?_
      rw [keyS_list, HQ.out]
      rintro e w3 ⟨rfl, rfl⟩
      go_wp2_with fail
      refine (kcheck_is S 0 HSz.out.1 HKS.out _).mono ?_
      rintro e w106 ⟨rfl, b1⟩
      have c2 := c1.trans (b1.mono c1.size); clear c1 b1
      have c1 := c2; clear c2
      go_wp2_with fail
      refine (kcheck_is T _ HSz.out.2 HW.out _).mono ?_
      rintro e w107 ⟨rfl, b1⟩
      have c2 := c1.trans (b1.mono c1.size); clear c1 b1
      have c1 := c2; clear c2
      go_wp2_with fail
      refine (kfits_is S _ _ HSz.out.1 HF2.out _).mono ?_
      rintro e w108 ⟨rfl, b1⟩
      have c2 := c1.trans (b1.mono c1.size); clear c1 b1
      have c1 := c2; clear c2
      go_wp2_with fail
      refine (kfits_is T _ _ HSz.out.2 (HF.out (by decide)) _).mono ?_
      rintro e w109 ⟨rfl, b1⟩
      have c2 := c1.trans (b1.mono c1.size); clear c1 b1
      have c1 := c2; clear c2
      go_wp2_with fail
      refine (works_any _ (HT.out.below c1)).mono ?_
      rintro e w110 ⟨rfl, b1⟩
      have c2 := c1.trans (b1.mono c1.size); clear c1 b1
      have c1 := c2; clear c2
      go_wp2_with fail
      go_ret
      exact ⟨rfl, c1⟩
  · rcases hfit with ⟨rfl, g3⟩ | ⟨rfl, g3⟩
    all_goals
      go_enter Tryd.func8, Tryd.ntmps8
      go_wp2_with fail
      refine (made_is _ l S HS.out _ HV.out).mono ?_
      rintro e w1 ⟨rfl, c1⟩
      go_wp2_with fail
      have hcv : (convert 33 9 (.slice (some ⟨w1.heap.size, 0, none⟩) 1 1)).run Tryd.prog (w1.alloc (.cells #[.int .u8 (c.toNat : Int)] 5)).drew = .ok (.string ⟨[c].toArray⟩) (w1.alloc (.cells #[.int .u8 (c.toNat : Int)] 5)).drew :=
        (bytesAt_one w1 c (c.toNat : Int) rfl 5).drew.convert (P := Tryd.prog) 33 9 5 Tryd.underlying33 Tryd.underlying5 Tryd.underlying9
      go_region
      have c2 : Below w.heap.size w (w1.alloc (.cells #[.int .u8 (c.toNat : Int)] 5)).drew := (c1.alloc c1.size _).drew
      generalize (w1.alloc (.cells #[.int .u8 (c.toNat : Int)] 5)).drew = w2 at *
      clear hcv c1
      have c1 := c2
      clear c2
      go_wp2_with fail
      refine (keeps (ixb keyS c _)).mono ?_
      rw [keyS_list, HQ.out]
      rintro e w3 ⟨rfl, rfl⟩
      go_wp2_with fail
      refine (kcheck_is S 0 HSz.out.1 HKS.out _).mono ?_
      rintro e w111 ⟨rfl, b1⟩
      have c2 := c1.trans (b1.mono c1.size); clear c1 b1
      have c1 := c2; clear c2
      go_wp2_with fail
      refine (kcheck_is T _ HSz.out.2 HW.out _).mono ?_
      rintro e w112 ⟨rfl, b1⟩
      have c2 := c1.trans (b1.mono c1.size); clear c1 b1
      have c1 := c2; clear c2
      go_wp2_with fail
      refine (kfits_is S _ _ HSz.out.1 HF2.out _).mono ?_
      rintro e w113 ⟨rfl, b1⟩
      have c2 := c1.trans (b1.mono c1.size); clear c1 b1
      have c1 := c2; clear c2
      go_wp2_with fail
      refine (works_any _ (HT.out.below c1)).mono ?_
      rintro e w114 ⟨rfl, b1⟩
      have c2 := c1.trans (b1.mono c1.size); clear c1 b1
      have c1 := c2; clear c2
      go_wp2_with fail
      go_ret
      exact ⟨rfl, c1⟩
end Go.Proofs.YthmbcjladgnigaaDoor
