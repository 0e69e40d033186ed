/-
  Configurations: what the reference's Parse computes.
  Conditions: none.
-/
import Derived.Test.YtllgnogiicdhfaaDoorCfg10
set_option linter.unusedVariables false
namespace Go.Proofs.YtllgnogiicdhfaaDoor
open Go Go.RowKit

set_option maxRecDepth 100000 in
set_option maxHeartbeats 8000000 in
theorem rParse_any (s : ByteArray) (hs : s.size ≤ 1000000) (w : World) :
    Calls Tryd.prog 24 #[.string s] w fun x w' => ((goodW (wordsL s) ∧ x = .returned (.tuple #[cfgOf (wordsL s), .int .i64 0])) ∨ (¬ goodW (wordsL s) ∧ x = .returned (.tuple #[cfg0, .int .i64 8]))) ∧ Below w.heap.size w w' := by
  have HS := Lib.hid (str_len s)
  have hn0 := NQ.new w 23 57 (wordsL s)
  have HN0 := Lib.hid hn0
  clear hn0
  go_enter Tryd.func24, Tryd.ntmps24
  go_wp2_with fail
  generalize ((w.alloc (.cells #[.int .i64 0, .int .i64 0, .int .i64 0, .int .i64 0, .int .i64 0, .int .i64 0, .int .i64 0] 23)).alloc (.cells #[.int .i64 0, .int .i64 0, .int .i64 0, .int .i64 0, .int .i64 0, .int .i64 0] 57)) = wS at *
  go_loopw [5, 6, 7] (fun vk vf vi wr => ∃ i k f : Nat, vi = .int .i64 i ∧ vk = .int .i64 k ∧ vf = .int .i64 f ∧ Hid (RI s.data.toList i k f) ∧ Hid (NQ w (wordsL s) k wr)) (fun _ _ vi _ => s.size - (intOf vi).toNat)
  case atStart => exact ⟨0, 0, 0, rfl, rfl, rfl, RI.start _, HN0⟩
  case round =>
    clear HN0
    obtain ⟨i, k, f, rfl, rfl, rfl, hR, hN⟩ := hrel
    obtain ⟨hfi, hkf, hil⟩ := hR.out.small
    rw [HS.out] at hil
    by_cases hlt : i < s.size
    · obtain ⟨c, hc⟩ : ∃ c : UInt8, c = s.data.toList.getD i 0 := ⟨_, rfl⟩
      have hix := run_str_at (P := Tryd.prog) s 9 Tryd.underlying9 .i64 (i : Int) i rfl hlt c hc
      have HC := Lib.hid hc
      clear hc
      by_cases h32 : c = 32
      · have d1 : ((c.toNat : Int) == 32) = true := by rw [h32]; rfl
        obtain ⟨hR2, hw, _⟩ := hR.out.cut (by rw [HS.out]; exact hlt) (by rw [← HC.out]; exact h32)
        have HR2 := Lib.hid hR2
        have hword : (wordsL s).getD k ⟨#[]⟩ = s.extract f i := by
          rw [words_getD, hw, ← extract_list s f i (by omega), data_pack]
        have HW := Lib.hid hword
        clear hR2 hw hword hR h32
        by_cases hk6 : k < 6
        · have hcut := run_slice_str (P := Tryd.prog) s 9 Tryd.underlying9 (f : Int) (i : Int) f i rfl rfl hfi (by omega)
          obtain ⟨x, hx⟩ : ∃ x, s.extract f i = x := ⟨_, rfl⟩
          have hxs : x.size ≤ s.size := by rw [← hx, ByteArray.size_extract]; omega
          rw [hx] at hcut HW
          obtain ⟨n, e, hne⟩ : ∃ n e, digV x.data.toList = (n, e) := ⟨_, _, rfl⟩
          have HD := Lib.hid hne
          clear hx hne
          go_wp2_with fail
          refine (keeps (rparseDigits_any x _ (by omega))).mono ?_
          rw [HD.out]
          rintro e2 w2 ⟨rfl, rfl⟩
          by_cases hok : e = 0 ∧ n < 1000000
          · obtain ⟨rfl, hn6⟩ := hok
            have d2 : decide ((n : Int) < 1000000) = true := by rw [decide_eq_true_iff]; omega
            have hnr : numR ((wordsL s).getD k ⟨#[]⟩) = n := by
              unfold numR
              rw [HW.out, HD.out, if_pos ⟨rfl, hn6⟩]
            have hst := Lib.hid (hN.out.store hk6 n hnr)
            have hca := hN.out.1.1 k hk6
            have hfa := hN.out.1.2.1 k
            have wn : IntKind.i64.wrap (n : Int) = (n : Int) := IntWalk.i64_in _ (by omega)
            clear hN hnr hn6
            go_wp2_with fail
            go_roundw
            case rel => exact ⟨i + 1, k + 1, i + 1, by go_num, by go_num, by go_num, HR2, hst⟩
            case measure => simp [intOf]; omega
          · have hnr : numR ((wordsL s).getD k ⟨#[]⟩) = 0 := by
              unfold numR
              rw [HW.out, HD.out, if_neg hok]
            have hst := Lib.hid (hN.out.zero hk6 hnr)
            have hd : (e == 0) = false ∨ ((e == 0) = true ∧ decide ((n : Int) < 1000000) = false) := by
              by_cases h : e = 0
              · exact Or.inr ⟨by rw [h]; rfl, by rw [decide_eq_false_iff_not]; omega⟩
              · exact Or.inl (by rw [beq_eq_false_iff_ne]; exact h)
            clear hN hnr hok
            rcases hd with d1' | ⟨d1', d2⟩
            · go_wp2_with fail
              go_roundw
              case rel => exact ⟨i + 1, k + 1, i + 1, by go_num, by go_num, by go_num, HR2, hst⟩
              case measure => simp [intOf]; omega
            · go_wp2_with fail
              go_roundw
              case rel => exact ⟨i + 1, k + 1, i + 1, by go_num, by go_num, by go_num, HR2, hst⟩
              case measure => simp [intOf]; omega
        · have hst := Lib.hid (hN.out.past (by omega))
          clear hN
          go_wp2_with fail
          go_roundw
          case rel => exact ⟨i + 1, k + 1, i + 1, by go_num, by go_num, by go_num, HR2, hst⟩
          case measure => simp [intOf]; omega
      · have d1 : ((c.toNat : Int) == 32) = false := by
          rw [beq_eq_false_iff_ne]
          intro e2
          exact h32 (UInt8.toNat_inj.mp (by have e3 : (32 : UInt8).toNat = 32 := rfl
                                            omega))
        have HR2 := Lib.hid (hR.out.skip (by rw [HS.out]; exact hlt) (by rw [← HC.out]; exact h32))
        clear hR h32
        go_wp2_with fail
        go_roundw
        case rel => exact ⟨i + 1, k, f, by go_num, rfl, rfl, HR2, hN⟩
        case measure => simp [intOf]; omega
    · obtain rfl : i = s.size := by omega
      have hlast := nAt_last (s := s) (k := k) (f := f) (by rw [HS.out]; exact hR.out)
      have a0 := hN.out.1.1 0 (by decide)
      have a1 := hN.out.1.1 1 (by decide)
      have a2 := hN.out.1.1 2 (by decide)
      have a3 := hN.out.1.1 3 (by decide)
      have a4 := hN.out.1.1 4 (by decide)
      have a5 := hN.out.1.1 5 (by decide)
      have HT := Lib.hid (TQ.new hN.out 23)
      obtain ⟨n, hn⟩ : ∃ n, nAt (wordsL s) k = n := ⟨_, rfl⟩
      rw [hn] at hlast a0 a1 a2 a3 a4 a5 HT
      have HN := Lib.hid hlast
      have hC : w.heap.size < wr.heap.size := World.block_lt_of_cell? wr _ (hN.out.2.1 0 (by decide))
      clear hlast hn hN hR hlt hil hfi hkf
      go_wp2_with fail
      obtain ⟨C, hCe⟩ : ∃ C, wr.heap.size = C := ⟨_, rfl⟩
      generalize wr.alloc (.cells #[.int .i64 (n 0), .int .i64 (n 1), .int .i64 (n 2), .int .i64 (n 3), .int .i64 (n 4), .int .i64 (n 5), .int .i64 0] 23) = wT at *
      rw [hCe] at HT hC ⊢
      clear hCe a0 a1 a2 a3 a4 a5
      go_loopw [11] (fun vp wr => (vp = .int .i64 1 ∧ Hid (TQ w C n 0 wr)) ∨ (vp = .int .i64 2 ∧ Hid (TQ w C n 1 wr) ∧ Hid (¬ (goodW (wordsL s) ∧ cfgOf (wordsL s) = cfgV (n 0) (n 1) (n 2) (n 3) (n 4) (n 5) 1))) ∨
        (vp = .int .i64 3 ∧ Hid (TQ w C n 2 wr) ∧ Hid (¬ (goodW (wordsL s) ∧ cfgOf (wordsL s) = cfgV (n 0) (n 1) (n 2) (n 3) (n 4) (n 5) 1)) ∧ Hid (¬ (goodW (wordsL s) ∧ cfgOf (wordsL s) = cfgV (n 0) (n 1) (n 2) (n 3) (n 4) (n 5) 2)))) (fun vp _ => 3 - (intOf vp).toNat)
      case atStart => exact Or.inl ⟨rfl, HT⟩
      case round =>
        clear HT
        rcases hrel with ⟨rfl, hT⟩ | ⟨rfl, hT, hq1⟩ | ⟨rfl, hT, hq1, hq2⟩
        · skip
          by_cases hq : goodW (wordsL s) ∧ cfgOf (wordsL s) = cfgV (n 0) (n 1) (n 2) (n 3) (n 4) (n 5) 1
          · have hq2 := (ref_q HN.out 1).2 hq
            have hT1 := Lib.hid (hT.out.store hC 1)
            obtain ⟨⟨g1, g2⟩, ⟨⟨k0, k1, k2, k3, k4, k5, k6⟩, g3⟩, g5⟩ := hT.out
            have f6 := g3 6
            obtain ⟨⟨_, _⟩, ⟨⟨m0, m1, m2, m3, m4, m5, m6⟩, _⟩, _⟩ := hT1.out
            have hE := Lib.hid hq2.1
            have hV := Lib.hid hq2.2
            have HQ := Lib.hid hq
            clear hq hq2 g1 g2 g3 g5 hT
            go_wp2_with fail
            refine (rText_any (n 0) (n 1) (n 2) (n 3) (n 4) (n 5) 1 _ s 0 (Or.inl ⟨hV.out, rfl, hE.out⟩)).mono ?_
            rintro e w3 ⟨rfl, b1⟩
            have hT2 := hT1.out.below b1
            obtain ⟨⟨g1, g2⟩, ⟨⟨k0, k1, k2, k3, k4, k5, k6⟩, g3⟩, c4⟩ := hT2
            have r0 := g1 0 (by decide)
            have r1 := g1 1 (by decide)
            have r2 := g1 2 (by decide)
            have r3 := g1 3 (by decide)
            have r4 := g1 4 (by decide)
            have r5 := g1 5 (by decide)
            have r6 := g1 6 (by decide)
            have f0 := g2 0
            have f1 := g2 1
            have f2 := g2 2
            have f3 := g2 3
            have f4 := g2 4
            have f5 := g2 5
            have f6 := g2 6
            clear g1 g2 g3 b1 hT1 m0 m1 m2 m3 m4 m5 m6
            go_wp2_with fail
            refine bodyPost_ret (v := .tuple #[cfgV (n 0) (n 1) (n 2) (n 3) (n 4) (n 5) 1, .int .i64 0]) (by simp [results, Tryd.results24, go_sem, r0, r1, r2, r3, r4, r5, r6]) rfl ⟨Or.inl ⟨HQ.out.1, by rw [HQ.out.2]⟩, ?_⟩
            exact below_set7 c4 _ _ _ _ _ _ _
          · have HQ := Lib.hid hq
            have hT1 := Lib.hid (hT.out.store hC 1)
            obtain ⟨⟨g1, g2⟩, ⟨⟨k0, k1, k2, k3, k4, k5, k6⟩, g3⟩, g5⟩ := hT.out
            have f6 := g3 6
            obtain ⟨⟨_, _⟩, ⟨⟨m0, m1, m2, m3, m4, m5, m6⟩, _⟩, _⟩ := hT1.out
            have hV : ∃ (v : ByteArray) (e : Int), Hid ((v.data.toList = textL (n 0) (n 1) (n 2) (n 3) (n 4) (n 5) 1 ∧ e = 0 ∧ cfgE (n 0) (n 1) (n 2) (n 3) (n 4) (n 5) 1 = 0) ∨ (v = ⟨#[]⟩ ∧ e = 2 ∧ cfgE (n 0) (n 1) (n 2) (n 3) (n 4) (n 5) 1 = 2)) ∧ ((e == 0) = false ∨ ((e == 0) = true ∧ (v.toList == s.toList) = false)) := by
              rcases cfg_cases (n 0) (n 1) (n 2) (n 3) (n 4) (n 5) 1 with ⟨hE, _⟩ | hE
              · refine ⟨pack (textL (n 0) (n 1) (n 2) (n 3) (n 4) (n 5) 1), 0, Or.inl ⟨pack_data _, rfl, hE⟩, Or.inr ⟨rfl, ?_⟩⟩
                rw [ByteArray.toList_eq, ByteArray.toList_eq, pack_data, beq_eq_false_iff_ne]
                intro he
                exact hq ((ref_q HN.out 1).1 ⟨hE, he.symm⟩)
              · exact ⟨⟨#[]⟩, 2, Or.inr ⟨rfl, rfl, hE⟩, Or.inl rfl⟩
            obtain ⟨v, e1, hV, d1⟩ := hV
            clear hq g1 g2 g3 g5 hT
            rcases d1 with d1 | ⟨d1, d2⟩
            · go_wp2_with fail
              refine (rText_any (n 0) (n 1) (n 2) (n 3) (n 4) (n 5) 1 _ v e1 hV.out).mono ?_
              rintro e w3 ⟨rfl, b1⟩
              have hT2 := Lib.hid (hT1.out.below b1)
              clear b1 hT1 m0 m1 m2 m3 m4 m5 m6
              go_wp2_with fail
              go_roundw
              case rel => exact Or.inr (Or.inl ⟨rfl, hT2, HQ⟩)
              case measure => simp [intOf]
            · go_wp2_with fail
              refine (rText_any (n 0) (n 1) (n 2) (n 3) (n 4) (n 5) 1 _ v e1 hV.out).mono ?_
              rintro e w3 ⟨rfl, b1⟩
              have hT2 := Lib.hid (hT1.out.below b1)
              clear b1 hT1 m0 m1 m2 m3 m4 m5 m6
              go_wp2_with fail
              go_roundw
              case rel => exact Or.inr (Or.inl ⟨rfl, hT2, HQ⟩)
              case measure => simp [intOf]
        · skip
          by_cases hq : goodW (wordsL s) ∧ cfgOf (wordsL s) = cfgV (n 0) (n 1) (n 2) (n 3) (n 4) (n 5) 2
          · have hq2 := (ref_q HN.out 2).2 hq
            have hT1 := Lib.hid (hT.out.store hC 2)
            obtain ⟨⟨g1, g2⟩, ⟨⟨k0, k1, k2, k3, k4, k5, k6⟩, g3⟩, g5⟩ := hT.out
            have f6 := g3 6
            obtain ⟨⟨_, _⟩, ⟨⟨m0, m1, m2, m3, m4, m5, m6⟩, _⟩, _⟩ := hT1.out
            have hE := Lib.hid hq2.1
            have hV := Lib.hid hq2.2
            have HQ := Lib.hid hq
            clear hq hq2 g1 g2 g3 g5 hT
            go_wp2_with fail
            refine (rText_any (n 0) (n 1) (n 2) (n 3) (n 4) (n 5) 2 _ s 0 (Or.inl ⟨hV.out, rfl, hE.out⟩)).mono ?_
            rintro e w3 ⟨rfl, b1⟩
            have hT2 := hT1.out.below b1
            obtain ⟨⟨g1, g2⟩, ⟨⟨k0, k1, k2, k3, k4, k5, k6⟩, g3⟩, c4⟩ := hT2
            have r0 := g1 0 (by decide)
            have r1 := g1 1 (by decide)
            have r2 := g1 2 (by decide)
            have r3 := g1 3 (by decide)
            have r4 := g1 4 (by decide)
            have r5 := g1 5 (by decide)
            have r6 := g1 6 (by decide)
            have f0 := g2 0
            have f1 := g2 1
            have f2 := g2 2
            have f3 := g2 3
            have f4 := g2 4
            have f5 := g2 5
            have f6 := g2 6
            clear g1 g2 g3 b1 hT1 m0 m1 m2 m3 m4 m5 m6
            go_wp2_with fail
            refine bodyPost_ret (v := .tuple #[cfgV (n 0) (n 1) (n 2) (n 3) (n 4) (n 5) 2, .int .i64 0]) (by simp [results, Tryd.results24, go_sem, r0, r1, r2, r3, r4, r5, r6]) rfl ⟨Or.inl ⟨HQ.out.1, by rw [HQ.out.2]⟩, ?_⟩
            exact below_set7 c4 _ _ _ _ _ _ _
          · have HQ := Lib.hid hq
            have hT1 := Lib.hid (hT.out.store hC 2)
            obtain ⟨⟨g1, g2⟩, ⟨⟨k0, k1, k2, k3, k4, k5, k6⟩, g3⟩, g5⟩ := hT.out
            have f6 := g3 6
            obtain ⟨⟨_, _⟩, ⟨⟨m0, m1, m2, m3, m4, m5, m6⟩, _⟩, _⟩ := hT1.out
            have hV : ∃ (v : ByteArray) (e : Int), Hid ((v.data.toList = textL (n 0) (n 1) (n 2) (n 3) (n 4) (n 5) 2 ∧ e = 0 ∧ cfgE (n 0) (n 1) (n 2) (n 3) (n 4) (n 5) 2 = 0) ∨ (v = ⟨#[]⟩ ∧ e = 2 ∧ cfgE (n 0) (n 1) (n 2) (n 3) (n 4) (n 5) 2 = 2)) ∧ ((e == 0) = false ∨ ((e == 0) = true ∧ (v.toList == s.toList) = false)) := by
              rcases cfg_cases (n 0) (n 1) (n 2) (n 3) (n 4) (n 5) 2 with ⟨hE, _⟩ | hE
              · refine ⟨pack (textL (n 0) (n 1) (n 2) (n 3) (n 4) (n 5) 2), 0, Or.inl ⟨pack_data _, rfl, hE⟩, Or.inr ⟨rfl, ?_⟩⟩
                rw [ByteArray.toList_eq, ByteArray.toList_eq, pack_data, beq_eq_false_iff_ne]
                intro he
                exact hq ((ref_q HN.out 2).1 ⟨hE, he.symm⟩)
              · exact ⟨⟨#[]⟩, 2, Or.inr ⟨rfl, rfl, hE⟩, Or.inl rfl⟩
            obtain ⟨v, e1, hV, d1⟩ := hV
            clear hq g1 g2 g3 g5 hT
            rcases d1 with d1 | ⟨d1, d2⟩
            · go_wp2_with fail
              refine (rText_any (n 0) (n 1) (n 2) (n 3) (n 4) (n 5) 2 _ v e1 hV.out).mono ?_
              rintro e w3 ⟨rfl, b1⟩
              have hT2 := Lib.hid (hT1.out.below b1)
              clear b1 hT1 m0 m1 m2 m3 m4 m5 m6
              go_wp2_with fail
              go_roundw
              case rel => exact Or.inr (Or.inr ⟨rfl, hT2, hq1, HQ⟩)
              case measure => simp [intOf]
            · go_wp2_with fail
              refine (rText_any (n 0) (n 1) (n 2) (n 3) (n 4) (n 5) 2 _ v e1 hV.out).mono ?_
              rintro e w3 ⟨rfl, b1⟩
              have hT2 := Lib.hid (hT1.out.below b1)
              clear b1 hT1 m0 m1 m2 m3 m4 m5 m6
              go_wp2_with fail
              go_roundw
              case rel => exact Or.inr (Or.inr ⟨rfl, hT2, hq1, HQ⟩)
              case measure => simp [intOf]
        · have HG := Lib.hid (ref_none HN.out hq1.out hq2.out)
          obtain ⟨⟨g1, g2⟩, _, c4⟩ := hT.out
          have r0 := g1 0 (by decide)
          have r1 := g1 1 (by decide)
          have r2 := g1 2 (by decide)
          have r3 := g1 3 (by decide)
          have r4 := g1 4 (by decide)
          have r5 := g1 5 (by decide)
          have r6 := g1 6 (by decide)
          have f0 := g2 0
          have f1 := g2 1
          have f2 := g2 2
          have f3 := g2 3
          have f4 := g2 4
          have f5 := g2 5
          have f6 := g2 6
          clear g1 g2 hq1 hq2 hT HN
          go_wp2_with fail
          refine bodyPost_ret (v := .tuple #[cfg0, .int .i64 8]) (by simp [results, Tryd.results24, go_sem, r0, r1, r2, r3, r4, r5, r6]) rfl ⟨Or.inr ⟨HG.out, rfl⟩, ?_⟩
          exact below_set7 c4 _ _ _ _ _ _ _
end Go.Proofs.YtllgnogiicdhfaaDoor
