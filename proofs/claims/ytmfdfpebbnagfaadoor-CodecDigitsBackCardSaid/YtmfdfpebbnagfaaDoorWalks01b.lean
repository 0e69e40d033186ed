/-
  The walk of CodecDigitsBack.
  Conditions: the library's table lies in the world.
-/
import Derived.Test.YtmfdfpebbnagfaaDoorWorks01
import Derived.Test.YtmfdfpebbnagfaaDoorDig01b
set_option linter.unusedVariables false
namespace Go.Proofs.YtmfdfpebbnagfaaDoor
open Go Go.RowKit

theorem dec_len20 {u : Nat} (h : u < 18446744073709551616) : (Lib.decDigits u).length ≤ 20 := by
  by_cases h0 : u = 0
  · subst h0; rw [hexD_dec0]; decide
  · rw [Lib.decDigits_length]
    have := Lib.numDigits_eq u (by omega) h
    split at this <;> omega

set_option maxHeartbeats 4000000 in
theorem walkCodecDigitsBack (n : Int) (hn : (Lit.int .u64 n).wf = true) (g : Int) (hg : (Lit.int .u8 g).wf = true) (s : ByteArray) (hs : s.size ≤ maxLen) (w : World) (ht : Tab w) :
    Calls Tryd.prog 9 #[.int .u64 n, .int .u8 g, .string s] w fun e w' => e = .returned (.bool true) ∧ Below w.heap.size w w' := by
  have hn2 : 0 ≤ n ∧ n < 18446744073709551616 := by have e1 : IntKind.u64.min = 0 := rfl; have e2 : IntKind.u64.max = 18446744073709551615 := rfl; simp [Lit.wf, e1, e2] at hn; omega
  have hg2 : 0 ≤ g ∧ g ≤ 255 := by have e1 : IntKind.u8.min = 0 := rfl; have e2 : IntKind.u8.max = 255 := rfl; simp [Lit.wf, e1, e2] at hg; omega
  obtain ⟨u, rfl⟩ : ∃ u : Nat, n = (u : Int) := ⟨n.toNat, by omega⟩
  obtain ⟨d, hd⟩ : ∃ d : Nat, (d : Int) = g % 10 := ⟨(g % 10).toNat, by omega⟩
  obtain ⟨c, hc⟩ : ∃ c : UInt8, c.toNat = 48 + d := ⟨UInt8.ofNat (48 + d), by rw [UInt8.toNat_ofNat']; omega⟩
  have hcd : isDig c = true := (isDig_iff c).mpr (by omega)
  have HU : Hid (u < 18446744073709551616) := by show u < _; omega
  have HV0 := Lib.hid (digV_dec (n := u) (by unfold M64; omega))
  have HL := Lib.hid (dec_len20 HU.out)
  have q1 : g.tmod 10 = (d : Int) := by rw [Int.tmod_eq_emod_of_nonneg (by omega)]; omega
  have q2 : IntKind.u8.wrap (d : Int) = (d : Int) := by rw [IntKind.wrap_u8]; omega
  have q3 : IntKind.u64.wrap (d : Int) = (d : Int) := wrap_u64 (m := d) rfl (by have : (256 : Nat) ^ 8 = 18446744073709551616 := by decide
                                                                                omega)
  have q4 : IntKind.u8.wrap (48 + (d : Int)) = 48 + (d : Int) := by rw [IntKind.wrap_u8]; omega
  have HC : Hid ((c.toNat : Int) = 48 + (d : Int)) := by show _ = _; omega
  have HT := Lib.hid ht
  have HD9 : Hid (d ≤ 9) := by show d ≤ 9; omega
  clear ht hn hn2 hs hg hg2 hd
  obtain ⟨A, hA⟩ : ∃ A, Lib.decDigits u = A := ⟨_, rfl⟩
  have HA := Lib.hid hA
  rw [hA] at HL HV0
  clear hA
  go_enter Tryd.func9, Tryd.ntmps9
  go_wp2_with fail
  refine (digits_any u HU.out _ HT.out).mono ?_
  rw [HA.out]
  rintro e w1 ⟨rfl, c1⟩
  go_wp2_with fail
  refine (parseDigits_any ⟨A.toArray⟩ _ (by have := HL.out; rw [size_list]; omega) (HT.out.below c1)).mono ?_
  rw [show (⟨A.toArray⟩ : ByteArray).data.toList = A from rfl, HV0.out]
  rintro e w2 ⟨rfl, b1⟩
  have c2 := c1.trans (b1.mono c1.size); clear c1 b1
  go_wp2_with fail
  refine (formatUint_any u HU.out _ (HT.out.below c2)).mono ?_
  rw [HA.out]
  rintro e w3 ⟨rfl, b1⟩
  have c1 := c2.trans (b1.mono c2.size); clear c2 b1
  have hcv := (bytesAt_one w3 c (48 + (d : Int)) HC.out 5).convert (P := Tryd.prog) 22 9 5 Tryd.underlying22 Tryd.underlying5 Tryd.underlying9
  have c2 : Below w.heap.size w (w3.alloc (.cells #[.int .u8 (48 + (d : Int))] 5)) := c1.alloc c1.size _
  have hsz1 : (⟨A.toArray⟩ : ByteArray).size ≤ 20 := by have := HL.out; rw [size_list]; omega
  have hsz2 : (⟨[c].toArray⟩ : ByteArray).size = 1 := rfl
  have hstr := str_append A [c]
  obtain ⟨S, hS⟩ : ∃ S : ByteArray, (⟨A.toArray⟩ ++ ⟨[c].toArray⟩ : ByteArray) = S := ⟨_, rfl⟩
  have HSd : Hid (S.data.toList = A ++ [c]) := by show _ = _; rw [← hS, hstr]
  have HSs : Hid (S.size ≤ 21) := by
    show S.size ≤ 21
    rw [← str_len, HSd.out, List.length_append, List.length_singleton]
    have := HL.out
    omega
  clear hstr c1
  have e8 : (256 : Nat) ^ 8 = 18446744073709551616 := by decide
  have hM : M64 = 18446744073709551616 := rfl
  have HCD := Lib.hid hcd
  have HCN : Hid (c.toNat = 48 + d) := hc
  clear hcd hc
  rcases (show u = 0 ∨ (0 < u ∧ M64 ≤ u * 10 + d) ∨ (0 < u ∧ u * 10 + d < M64) by omega) with h | ⟨h, h'⟩ | ⟨h, h'⟩
  · have HX : Hid (digV S.data.toList = (0, 8)) := by
      show _ = _
      rw [HSd.out, ← HA.out, h]
      exact digV_next_zero c
    have e0 : ((u : Int) == 0) = true := by rw [h]; rfl
    clear h e8 hM
    go_wp2_with fail
    refine (parseDigits_is S 0 0 8 _ rfl (by have := HSs.out; omega) (HT.out.below c2) HX.out).mono ?_
    rintro e w4 ⟨rfl, b1⟩
    have c1 := c2.trans (b1.mono c2.size); clear c2 b1
    have c2 := c1; clear c1
    by_cases h300 : 300 < s.size
    · have d1 : decide ((300 : Int) < (s.size : Int)) = true := by rw [decide_eq_true_iff]; omega
      clear h300
      go_wp2_with fail
      refine (works_any _ (HT.out.below c2)).mono ?_
      rintro e w5 ⟨rfl, b1⟩
      have c1 := c2.trans (b1.mono c2.size); clear c2 b1
      go_wp2_with fail
      go_ret
      exact ⟨rfl, c1⟩
    · have d1 : decide ((300 : Int) < (s.size : Int)) = false := by rw [decide_eq_false_iff_not]; omega
      have HS : Hid (s.size ≤ 300) := by show s.size ≤ 300; omega
      clear h300
      rcases digV_tells s.data.toList with h | h | ⟨k, hk, h, hkb⟩
      · have H := Lib.hid h; clear h
        go_wp2_with fail
        refine (parseDigits_is s 0 0 8 _ rfl (by have := HS.out; omega) (HT.out.below c2) H.out).mono ?_
        rintro e w5 ⟨rfl, b1⟩
        have c1 := c2.trans (b1.mono c2.size); clear c2 b1
        go_wp2_with fail
        refine (works_any _ (HT.out.below c1)).mono ?_
        rintro e w6 ⟨rfl, b1⟩
        have c2 := c1.trans (b1.mono c1.size); clear c1 b1
        go_wp2_with fail
        go_ret
        exact ⟨rfl, c2⟩
      · have H := Lib.hid h; clear h
        go_wp2_with fail
        refine (parseDigits_is s 0 0 16 _ rfl (by have := HS.out; omega) (HT.out.below c2) H.out).mono ?_
        rintro e w5 ⟨rfl, b1⟩
        have c1 := c2.trans (b1.mono c2.size); clear c2 b1
        go_wp2_with fail
        refine (works_any _ (HT.out.below c1)).mono ?_
        rintro e w6 ⟨rfl, b1⟩
        have c2 := c1.trans (b1.mono c1.size); clear c1 b1
        go_wp2_with fail
        go_ret
        exact ⟨rfl, c2⟩
      · have H := Lib.hid h; clear h
        have HK : Hid (k < 18446744073709551616) := hk
        have hsb : (⟨(Lib.decDigits k).toArray⟩ : ByteArray) = s := by rw [hkb, str_back]
        have HSB := Lib.hid hsb
        clear hk hkb hsb
        go_wp2_with fail
        refine (parseDigits_is s k k 0 _ rfl (by have := HS.out; omega) (HT.out.below c2) H.out).mono ?_
        rintro e w5 ⟨rfl, b1⟩
        have c1 := c2.trans (b1.mono c2.size); clear c2 b1
        go_wp2_with fail
        refine (digits_is k k s _ rfl HK.out (HT.out.below c1) HSB.out).mono ?_
        rintro e w6 ⟨rfl, b1⟩
        have c2 := c1.trans (b1.mono c1.size); clear c1 b1
        go_wp2_with fail
        refine (works_any _ (HT.out.below c2)).mono ?_
        rintro e w7 ⟨rfl, b1⟩
        have c1 := c2.trans (b1.mono c2.size); clear c2 b1
        go_wp2_with fail
        go_ret
        exact ⟨rfl, c1⟩
  · have HX : Hid (digV S.data.toList = (0, 16)) := by
      show _ = _
      rw [HSd.out, ← HA.out, digV_next h HCD.out, HCN.out, show 48 + d - 48 = d by omega, if_pos h']
    have w3 : IntKind.u64.wrap (18446744073709551615 - (d : Int)) = 18446744073709551615 - (d : Int) := wrap_u64 (m := 18446744073709551615 - d) (by have := HD9.out; omega) (by omega)
    obtain ⟨q, hq8⟩ : ∃ q : Int, (18446744073709551615 - (d : Int)) / 10 = q := ⟨_, rfl⟩
    have hq9 : (18446744073709551615 - (d : Int)).tdiv 10 = q := by rw [Int.tdiv_eq_ediv_of_nonneg (by have := HD9.out; omega)]; exact hq8
    have w4 : IntKind.u64.wrap q = q := wrap_u64 (m := (18446744073709551615 - d) / 10) (by have := HD9.out; omega) (by omega)
    have e0 : ((u : Int) == 0) = false := by rw [beq_eq_false_iff_ne]; omega
    have t1 : decide (q < (u : Int)) = true := by rw [decide_eq_true_iff]; have := HD9.out; omega
    clear h h' e8 hM hq8
    go_wp2_with fail
    refine (parseDigits_is S 0 0 16 _ rfl (by have := HSs.out; omega) (HT.out.below c2) HX.out).mono ?_
    rintro e w4 ⟨rfl, b1⟩
    have c1 := c2.trans (b1.mono c2.size); clear c2 b1
    have c2 := c1; clear c1
    by_cases h300 : 300 < s.size
    · have d1 : decide ((300 : Int) < (s.size : Int)) = true := by rw [decide_eq_true_iff]; omega
      clear h300
      go_wp2_with fail
      refine (works_any _ (HT.out.below c2)).mono ?_
      rintro e w5 ⟨rfl, b1⟩
      have c1 := c2.trans (b1.mono c2.size); clear c2 b1
      go_wp2_with fail
      go_ret
      exact ⟨rfl, c1⟩
    · have d1 : decide ((300 : Int) < (s.size : Int)) = false := by rw [decide_eq_false_iff_not]; omega
      have HS : Hid (s.size ≤ 300) := by show s.size ≤ 300; omega
      clear h300
      rcases digV_tells s.data.toList with h | h | ⟨k, hk, h, hkb⟩
      · have H := Lib.hid h; clear h
        go_wp2_with fail
        refine (parseDigits_is s 0 0 8 _ rfl (by have := HS.out; omega) (HT.out.below c2) H.out).mono ?_
        rintro e w5 ⟨rfl, b1⟩
        have c1 := c2.trans (b1.mono c2.size); clear c2 b1
        go_wp2_with fail
        refine (works_any _ (HT.out.below c1)).mono ?_
        rintro e w6 ⟨rfl, b1⟩
        have c2 := c1.trans (b1.mono c1.size); clear c1 b1
        go_wp2_with fail
        go_ret
        exact ⟨rfl, c2⟩
      · have H := Lib.hid h; clear h
        go_wp2_with fail
        refine (parseDigits_is s 0 0 16 _ rfl (by have := HS.out; omega) (HT.out.below c2) H.out).mono ?_
        rintro e w5 ⟨rfl, b1⟩
        have c1 := c2.trans (b1.mono c2.size); clear c2 b1
        go_wp2_with fail
        refine (works_any _ (HT.out.below c1)).mono ?_
        rintro e w6 ⟨rfl, b1⟩
        have c2 := c1.trans (b1.mono c1.size); clear c1 b1
        go_wp2_with fail
        go_ret
        exact ⟨rfl, c2⟩
      · have H := Lib.hid h; clear h
        have HK : Hid (k < 18446744073709551616) := hk
        have hsb : (⟨(Lib.decDigits k).toArray⟩ : ByteArray) = s := by rw [hkb, str_back]
        have HSB := Lib.hid hsb
        clear hk hkb hsb
        go_wp2_with fail
        refine (parseDigits_is s k k 0 _ rfl (by have := HS.out; omega) (HT.out.below c2) H.out).mono ?_
        rintro e w5 ⟨rfl, b1⟩
        have c1 := c2.trans (b1.mono c2.size); clear c2 b1
        go_wp2_with fail
        refine (digits_is k k s _ rfl HK.out (HT.out.below c1) HSB.out).mono ?_
        rintro e w6 ⟨rfl, b1⟩
        have c2 := c1.trans (b1.mono c1.size); clear c1 b1
        go_wp2_with fail
        refine (works_any _ (HT.out.below c2)).mono ?_
        rintro e w7 ⟨rfl, b1⟩
        have c1 := c2.trans (b1.mono c2.size); clear c2 b1
        go_wp2_with fail
        go_ret
        exact ⟨rfl, c1⟩
  · have HX : Hid (digV S.data.toList = (u * 10 + d, 0)) := by
      show _ = _
      rw [HSd.out, ← HA.out, digV_next h HCD.out, HCN.out, show 48 + d - 48 = d by omega, if_neg (by omega)]
    have w3 : IntKind.u64.wrap (18446744073709551615 - (d : Int)) = 18446744073709551615 - (d : Int) := wrap_u64 (m := 18446744073709551615 - d) (by have := HD9.out; omega) (by omega)
    obtain ⟨q, hq8⟩ : ∃ q : Int, (18446744073709551615 - (d : Int)) / 10 = q := ⟨_, rfl⟩
    have hq9 : (18446744073709551615 - (d : Int)).tdiv 10 = q := by rw [Int.tdiv_eq_ediv_of_nonneg (by have := HD9.out; omega)]; exact hq8
    have w4 : IntKind.u64.wrap q = q := wrap_u64 (m := (18446744073709551615 - d) / 10) (by have := HD9.out; omega) (by omega)
    have e0 : ((u : Int) == 0) = false := by rw [beq_eq_false_iff_ne]; omega
    have t1 : decide (q < (u : Int)) = false := by rw [decide_eq_false_iff_not]; have := HD9.out; omega
    obtain ⟨r, hr⟩ : ∃ r : Int, r = 10 * (u : Int) + (d : Int) := ⟨_, rfl⟩
    have w5 : IntKind.u64.wrap (10 * (u : Int)) = 10 * (u : Int) := wrap_u64 (m := 10 * u) (by omega) (by omega)
    have w6 : IntKind.u64.wrap (10 * (u : Int) + (d : Int)) = r := by rw [hr]; exact wrap_u64 (m := 10 * u + d) (by omega) (by omega)
    have HR : Hid (r = ((u * 10 + d : Nat) : Int)) := by show _ = _; omega
    clear h h' e8 hM hq8 hr
    go_wp2_with fail
    refine (parseDigits_is S (u * 10 + d) r 0 _ HR.out (by have := HSs.out; omega) (HT.out.below c2) HX.out).mono ?_
    rintro e w4 ⟨rfl, b1⟩
    have c1 := c2.trans (b1.mono c2.size); clear c2 b1
    have c2 := c1; clear c1
    by_cases h300 : 300 < s.size
    · have d1 : decide ((300 : Int) < (s.size : Int)) = true := by rw [decide_eq_true_iff]; omega
      clear h300
      go_wp2_with fail
      refine (works_any _ (HT.out.below c2)).mono ?_
      rintro e w5 ⟨rfl, b1⟩
      have c1 := c2.trans (b1.mono c2.size); clear c2 b1
      go_wp2_with fail
      go_ret
      exact ⟨rfl, c1⟩
    · have d1 : decide ((300 : Int) < (s.size : Int)) = false := by rw [decide_eq_false_iff_not]; omega
      have HS : Hid (s.size ≤ 300) := by show s.size ≤ 300; omega
      clear h300
      rcases digV_tells s.data.toList with h | h | ⟨k, hk, h, hkb⟩
      · have H := Lib.hid h; clear h
        go_wp2_with fail
        refine (parseDigits_is s 0 0 8 _ rfl (by have := HS.out; omega) (HT.out.below c2) H.out).mono ?_
        rintro e w5 ⟨rfl, b1⟩
        have c1 := c2.trans (b1.mono c2.size); clear c2 b1
        go_wp2_with fail
        refine (works_any _ (HT.out.below c1)).mono ?_
        rintro e w6 ⟨rfl, b1⟩
        have c2 := c1.trans (b1.mono c1.size); clear c1 b1
        go_wp2_with fail
        go_ret
        exact ⟨rfl, c2⟩
      · have H := Lib.hid h; clear h
        go_wp2_with fail
        refine (parseDigits_is s 0 0 16 _ rfl (by have := HS.out; omega) (HT.out.below c2) H.out).mono ?_
        rintro e w5 ⟨rfl, b1⟩
        have c1 := c2.trans (b1.mono c2.size); clear c2 b1
        go_wp2_with fail
        refine (works_any _ (HT.out.below c1)).mono ?_
        rintro e w6 ⟨rfl, b1⟩
        have c2 := c1.trans (b1.mono c1.size); clear c1 b1
        go_wp2_with fail
        go_ret
        exact ⟨rfl, c2⟩
      · have H := Lib.hid h; clear h
        have HK : Hid (k < 18446744073709551616) := hk
        have hsb : (⟨(Lib.decDigits k).toArray⟩ : ByteArray) = s := by rw [hkb, str_back]
        have HSB := Lib.hid hsb
        clear hk hkb hsb
        go_wp2_with fail
        refine (parseDigits_is s k k 0 _ rfl (by have := HS.out; omega) (HT.out.below c2) H.out).mono ?_
        rintro e w5 ⟨rfl, b1⟩
        have c1 := c2.trans (b1.mono c2.size); clear c2 b1
        go_wp2_with fail
        refine (digits_is k k s _ rfl HK.out (HT.out.below c1) HSB.out).mono ?_
        rintro e w6 ⟨rfl, b1⟩
        have c2 := c1.trans (b1.mono c1.size); clear c1 b1
        go_wp2_with fail
        refine (works_any _ (HT.out.below c2)).mono ?_
        rintro e w7 ⟨rfl, b1⟩
        have c1 := c2.trans (b1.mono c2.size); clear c2 b1
        go_wp2_with fail
        go_ret
        exact ⟨rfl, c1⟩
end Go.Proofs.YtmfdfpebbnagfaaDoor
