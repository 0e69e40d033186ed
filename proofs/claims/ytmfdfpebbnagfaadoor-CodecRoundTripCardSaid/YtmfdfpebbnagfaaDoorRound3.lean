/-
  The walk of CodecRoundTrip.
  Conditions: the library's table lies in the world.
-/
import Derived.Test.YtmfdfpebbnagfaaDoorRound2
import Derived.Deep.RegionHeld3
set_option linter.unusedVariables false
namespace Go.Proofs.YtmfdfpebbnagfaaDoor
open Go Go.RowKit

theorem own_cells {w : World} {B e n : Nat} {v : Value} {l : List Nat} (h : w.ownsRow B e 1 v n (intCells l)) (hl : l.length = n) (hn : 0 < n) :
    ∃ g c, v = .slice (some ⟨g, 0, none⟩) n c ∧ ∀ j, j < n → w.cell? ⟨g, j, none⟩ = some (.int .i64 ((l.getD j 0 : Nat) : Int)) := by
  obtain ⟨g, cap, rfl, _, _⟩ := h.form hn
  refine ⟨g, cap, rfl, fun j hj => ?_⟩
  rw [h.cellAt j (by omega)]
  unfold intCells
  rw [List.getElem?_map, List.getD, List.getElem?_eq_getElem (by omega)]
  rfl
theorem sumL_one (x : Nat) : sumL [x] = x := by simp [sumL]
theorem append_at (v : Value) (l : List UInt8) (n k : Nat) (k' : Int) (hk' : k' = (k : Int)) (w : World) (hv : BytesAt w v l) (hl : l.length ≤ 35184372088832) (hn : n < 256 ^ 8) (h1 : isW (k : Int) = true) (hf : fitsV n (k : Int) = true) (hk8 : k ≤ 8) :
    Calls Tryd.prog 13 #[v, .int .u64 (n : Int), .int .i64 k'] w fun e w' => ∃ v1, e = .returned (.tuple #[v1, .int .i64 0]) ∧ w'.ownsRow w.heap.size 5 1 v1 (l ++ leL n k).length (Lib.byteCells (l ++ leL n k)) ∧ Below w.heap.size w w' := by
  subst hk'
  exact append_own v l n k w hv hl hn h1 hf hk8


set_option maxRecDepth 100000 in
set_option maxHeartbeats 8000000 in
theorem walkCodecRoundTrip (w : World) (v : Value) (l : List UInt8) (hv : BytesAt w v l) (v1 : Value) (z : List Nat) (hz : U64At w v1 z) (a : Int) (ha : (Lit.int .u8 a).wf = true) (ht : Tab w) :
    Calls Tryd.prog 11 #[v, v1, .int .u8 a] w fun e w' => e = .returned (.bool true) ∧ Below w.heap.size w w' := by
  have ha2 : 0 ≤ a ∧ a ≤ 255 := by have e1 : IntKind.u8.min = 0 := rfl; have e2 : IntKind.u8.max = 255 := rfl; simp [Lit.wf, e1, e2] at ha; omega
  have HT := Lib.hid ht
  obtain ⟨p, n, c, m, l2, rfl, hn, hmin, hm3, hmn, hl2t, hl2, hv2, hcut⟩ := cut_bytes hv 300
  clear hl2t
  have HV := Lib.hid hv2
  have hmc : Hid (m ≤ c) := by
    show m ≤ c
    obtain ⟨_, _, he, h1, _⟩ := hv2
    cases he
    omega
  have hmin2 : min (n : Int) 300 = (m : Int) := hmin
  have HM : Hid (m ≤ 300 ∧ l2.length = m) := ⟨hm3, hl2⟩
  obtain ⟨p1, n1, cc1, m1, z2, rfl, hmin1, hm50, hmn1, hz2l, hzr, hzv, hcut1⟩ := hz.cut 50
  have hmin3 : min (n1 : Int) 50 = (m1 : Int) := hmin1
  have HZ := Lib.hid hzv
  have HZ2 : Hid (z2.length = m1 ∧ ∀ i, i < m1 → z2.getD i 0 < 256 ^ 8) := ⟨hz2l, hzr⟩
  clear ht hv hv2 hn hmin hmin1 hz hzv hz2l hzr ha
  go_enter Tryd.func11, Tryd.ntmps11
  go_wp2_with fail
  go_quiet (fail)
  go_wp2_with fail
  refine (bclone_any _ l2 _ (HV.out.below (below_drewN w _)) (by have := HM.out; omega)).mono ?_
  rintro e wB ⟨vg, rfl, G, b1⟩
  have HG := Lib.hid G
  have c1 : Below w.heap.size w wB := (below_drewN w _).trans b1
  have HVB := Lib.hid (HV.out.below c1)
  have HZB := Lib.hid (HZ.out.below c1)
  have HTB := Lib.hid (HT.out.below c1)
  clear b1 G HV HZ HT
  have h0 : Hid (RT l2 z2 m wB.heap.size wB (.slice p m c) (.slice none 0 0) (.slice none 0 0) []) := by
    refine ⟨by rw [encL_nil, List.append_nil]; exact HVB.out, World.ownsRow_nil _ _ _ _, World.ownsRow_nil _ _ _ _, ?_, Or.inl rfl, fun j hj => by simp at hj⟩
    rw [encL_nil, List.append_nil]
    intro h0
    obtain ⟨p', c', he, _, hp⟩ := HVB.out
    obtain ⟨b, o, rfl, _⟩ := hp h0
    cases he
    exact ⟨(fun he => by cases he), (fun he => by cases he)⟩
  obtain ⟨i0, hi, hz0, hz1, hz2⟩ := info_parts infoInt
  go_wp2_with fail
  go_loopw [8, 9, 10, 11, 40] (fun vo va vf vu vi wr => ∃ ws : List Nat, ws.length ≤ m1 ∧ vi = .int .i64 ws.length ∧ va = .int .i64 ((m : Int) + (sumL ws : Int)) ∧ sumL ws ≤ 8 * ws.length ∧ Hid (RT l2 z2 m wB.heap.size wr vo vf vu ws) ∧ Below wB.heap.size wB wr) (fun _ _ _ _ vi _ => m1 - (intOf vi).toNat)
  case atStart => exact ⟨[], Nat.zero_le _, rfl, rfl, Nat.zero_le _, h0, Below.refl _ _⟩
  case round =>
    clear h0
    obtain ⟨ws, hws, rfl, rfl, hsum, hR, c2⟩ := hrel
    by_cases hlt : ws.length < m1
    · have hzi := HZ2.out.2 ws.length hlt
      obtain ⟨b0, o0, hp1, hcell⟩ : ∃ b0 o0, p1 = some ⟨b0, o0, none⟩ ∧ wr.cell? ⟨b0, o0 + ws.length, none⟩ = some (.int .u64 ((z2.getD ws.length 0 : Nat) : Int)) := by
        obtain ⟨p', c', he, _, _, hp⟩ := HZB.out.below c2
        obtain ⟨b, o, rfl, hc⟩ := hp (by have := HZ2.out.1; omega)
        cases he
        exact ⟨b, o, rfl, hc ws.length (by have := HZ2.out.1; omega)⟩
      subst hp1
      have HU := Lib.hid hzi
      obtain ⟨u, hu⟩ : ∃ u, z2.getD ws.length 0 = u := ⟨_, rfl⟩
      have HUD := Lib.hid hu
      rw [hu] at hcell HU
      clear hzi hu
      obtain ⟨k, hk⟩ : ∃ k, ws.length = k := ⟨_, rfl⟩
      rw [hk] at hlt hcell hsum hws
      have HK := Lib.hid hk
      rw [hk]
      clear hk
      go_wp2_with fail
      refine (lwidths_any _).mono ?_
      rintro e w1 ⟨rfl, rfl⟩
      have HW := Lib.hid (widthsAt_new wr)
      have c3 := below_widths wr
      go_wp2_with fail
      obtain ⟨wo, rfl⟩ : ∃ wo : World, wo = wr := ⟨_, rfl⟩
      go_loopw [14, 47] (fun vx vj wr => ∃ j : Nat, j ≤ 3 ∧ vj = .int .i64 j ∧ vx = .int .i64 8 ∧ Hid (WidthsAt wr wo.heap.size) ∧ Below wo.heap.size wo wr) (fun _ vj _ => 4 - (intOf vj).toNat)
      case atStart => exact ⟨0, by omega, rfl, rfl, HW, c3⟩
      case round =>
        clear HW c3
        obtain ⟨j, hj, rfl, rfl, hw, c3⟩ := hrel
        have hx8 := wN_le j
        have HX := Lib.hid (wN_is j)
        have hcell2 := hw.out j (by omega)
        have hlast : j = 3 → wN j = 8 := fun h => by rw [h]; rfl
        generalize wN j = x at *
        rcases hF : fitsV u (x : Int) with _ | _
        · have hj3 : j < 3 := by
            rcases Nat.lt_or_ge j 3 with h | h
            · exact h
            · have h8 := hlast (by omega)
              subst h8
              rw [show ((8 : Nat) : Int) = 8 from rfl, fits_wide u rfl HU.out] at hF
              cases hF
          have HF := Lib.hid hF
          clear hF hlast
          go_wp2_with fail
          refine (fits_is u _ _ false _ rfl HU.out HF.out).mono ?_
          rintro e w2 ⟨rfl, b1⟩
          have hw2 := Lib.hid (hw.out.below b1)
          have c4 := c3.trans (b1.mono c3.size); clear hw c3 b1 hcell2
          go_wp2_with fail
          go_roundw
          case rel => exact ⟨j + 1, by omega, by go_num, rfl, hw2, c4⟩
          case measure => simp [intOf]; omega
        · have HF := Lib.hid hF
          clear hF hlast
          go_wp2_with fail
          refine (fits_is u _ _ true _ rfl HU.out HF.out).mono ?_
          rintro e w2 ⟨rfl, b1⟩
          have c4 := c3.trans (b1.mono c3.size); clear hw c3 b1 hcell2
          go_wp2_with fail
          · skip
            have hs400 : sumL ws ≤ 400 := by omega
            have HR2 := Lib.hid (hR.out.below c4)
            have HLen : Hid ((l2 ++ encL z2 ws).length = m + sumL ws) := by show _ = _; rw [List.length_append, HM.out.2, encL_length z2 ws (by have := HZ2.out.1; have := HK.out; omega)]
            refine (append_at _ (l2 ++ encL z2 ws) u 8 8 rfl _ HR2.out.1 (by rw [HLen.out]; omega) HU.out (show isW ((8 : Nat) : Int) = true ∧ fitsV u ((8 : Nat) : Int) = true ∧ 8 ≤ 8 from ⟨rfl, fits_wide u rfl HU.out, by omega⟩).1 (show isW ((8 : Nat) : Int) = true ∧ fitsV u ((8 : Nat) : Int) = true ∧ 8 ≤ 8 from ⟨rfl, fits_wide u rfl HU.out, by omega⟩).2.1 (show isW ((8 : Nat) : Int) = true ∧ fitsV u ((8 : Nat) : Int) = true ∧ 8 ≤ 8 from ⟨rfl, fits_wide u rfl HU.out, by omega⟩).2.2).mono ?_
            rintro e w5 ⟨vn, rfl, h5, b5⟩
            have HR5 := Lib.hid (HR2.out.below b5)
            have HL5 : Hid (((l2 ++ encL z2 ws) ++ leL u 8).length = m + sumL ws + 8) := by show _ = _; rw [List.length_append, HLen.out, leL_length]
            have hB5 := BytesAt.of_owns h5
            have hB5c := hB5
            obtain ⟨p5, c5, hvn, hc5, hp5⟩ := hB5c
            rw [HL5.out] at hvn hc5
            subst hvn
            clear hp5
            have H5 := Lib.hid h5
            clear h5
            have HB1 : Hid (BytesAt w5 (.slice p5 (m + sumL ws) c5) (l2 ++ encL z2 ws)) := by
              have hb := hB5.upto (m := m + sumL ws) (by omega)
              rw [List.take_left' HLen.out] at hb
              exact hb
            clear hB5
            have hcut5 := run_upto p5 (m + sumL ws + 8) c5 (m + sumL ws) (by omega)
            simp only [Int.natCast_add] at hcut5
            clear hc5
            go_wp2_with fail
            refine (equal_is _ _ (l2 ++ encL z2 ws) (l2 ++ encL z2 ws) true _ HB1.out HR5.out.1 (beq_self_eq_true _)).mono ?_
            rintro e w5 ⟨rfl, rfl⟩
            have hBs : wB.heap.size ≤ w5.heap.size := by have := c2.size; have := c4.size; have := b5.size; omega
            have hBo : wB.heap.size ≤ wo.heap.size := c2.size
            have hkm : ws.length < 50 := by have := HK.out; omega
            go_wp2_with (at_builtin; refine wpList_append_own_at _ rfl (.tmp 88) (.tmp 90) 39 rfl wB.heap.size 3 i0 (.int .i64 0) 1 8 Tryd.underlying39 hi hz0 hz1 hz2 rfl (by decide) _ _ _ rfl (HR5.out.2.1.alloc _) ⟨w5.heap.size, 0, none⟩ 1 1 [.int .i64 ((m : Int) + (sumL ws : Int))] rfl rfl (cell_one_new _ _ _) (fun q hq => by simp at hq; subst hq; rfl) (by unfold maxLen; omega) (by omega) (by simp; omega) ?_)
            intro vf2 w6 hf2 g1 _ a1
            have HU6 := Lib.hid (HR5.out.used g1)
            have hs6 : w5.heap.size + 1 ≤ w6.heap.size := by have := g1.size; simp at this; omega
            go_wp2_with (at_builtin; refine wpList_append_own_at _ rfl (.tmp 92) (.tmp 94) 39 rfl wB.heap.size 3 i0 (.int .i64 0) 1 8 Tryd.underlying39 hi hz0 hz1 hz2 rfl (by decide) _ _ _ rfl (HU6.out.alloc _) ⟨w6.heap.size, 0, none⟩ 1 1 [.int .i64 8] rfl rfl (cell_one_new _ _ _) (fun q hq => by simp at hq; subst hq; rfl) (by unfold maxLen; omega) (by omega) (by simp; omega) ?_)
            intro vu2 w7 hu2 g2 _ a2
            have hst := RT.step (x := 8) HR2.out b5 (by exact (show isW ((8 : Nat) : Int) = true ∧ fitsV u ((8 : Nat) : Int) = true ∧ 8 ≤ 8 from ⟨rfl, fits_wide u rfl HU.out, by omega⟩).1) (by rw [HUD.out]; exact (show isW ((8 : Nat) : Int) = true ∧ fitsV u ((8 : Nat) : Int) = true ∧ 8 ≤ 8 from ⟨rfl, fits_wide u rfl HU.out, by omega⟩).2.1) (by have := HZ2.out.1; have := HK.out; omega) (by have := c4.size; omega) (by rw [HUD.out]; exact H5.out) _ _ (by rw [Int.natCast_add]) rfl hf2 g1 a1 hu2 g2 a2
            have HR7 := Lib.hid hst.1
            have c7 : Below wB.heap.size wB w7 := ((c2.trans (c4.mono hBo)).trans (b5.mono (by have := c4.size; omega))).trans hst.2
            clear hst hf2 g1 a1 hu2 g2 a2 HU6 H5 HR5 HR2 HB1 hcut5 hR c2 c4 b5
            go_wp2_with fail
            go_roundw
            case rel =>
              refine ⟨ws ++ [8], by rw [List.length_append, List.length_singleton]; have := HK.out; omega, ?_, ?_, ?_, HR7, c7⟩
              · rw [List.length_append, List.length_singleton, HK.out]; go_num
              · exact congrArg (Value.int .i64) (by rw [sumL_append, sumL_one]; omega)
              · rw [sumL_append, sumL_one, List.length_append, List.length_singleton, HK.out]
                omega
            case measure => simp [intOf]; omega
          · skip
            have hs400 : sumL ws ≤ 400 := by omega
            have HR2 := Lib.hid (hR.out.below c4)
            have HLen : Hid ((l2 ++ encL z2 ws).length = m + sumL ws) := by show _ = _; rw [List.length_append, HM.out.2, encL_length z2 ws (by have := HZ2.out.1; have := HK.out; omega)]
            refine (append_at _ (l2 ++ encL z2 ws) u x (x : Int) rfl _ HR2.out.1 (by rw [HLen.out]; omega) HU.out (show isW (x : Int) = true ∧ fitsV u (x : Int) = true ∧ x ≤ 8 from ⟨HX.out, HF.out, by omega⟩).1 (show isW (x : Int) = true ∧ fitsV u (x : Int) = true ∧ x ≤ 8 from ⟨HX.out, HF.out, by omega⟩).2.1 (show isW (x : Int) = true ∧ fitsV u (x : Int) = true ∧ x ≤ 8 from ⟨HX.out, HF.out, by omega⟩).2.2).mono ?_
            rintro e w5 ⟨vn, rfl, h5, b5⟩
            have HR5 := Lib.hid (HR2.out.below b5)
            have HL5 : Hid (((l2 ++ encL z2 ws) ++ leL u x).length = m + sumL ws + x) := by show _ = _; rw [List.length_append, HLen.out, leL_length]
            have hB5 := BytesAt.of_owns h5
            have hB5c := hB5
            obtain ⟨p5, c5, hvn, hc5, hp5⟩ := hB5c
            rw [HL5.out] at hvn hc5
            subst hvn
            clear hp5
            have H5 := Lib.hid h5
            clear h5
            have HB1 : Hid (BytesAt w5 (.slice p5 (m + sumL ws) c5) (l2 ++ encL z2 ws)) := by
              have hb := hB5.upto (m := m + sumL ws) (by omega)
              rw [List.take_left' HLen.out] at hb
              exact hb
            clear hB5
            have hcut5 := run_upto p5 (m + sumL ws + x) c5 (m + sumL ws) (by omega)
            simp only [Int.natCast_add] at hcut5
            clear hc5
            go_wp2_with fail
            refine (equal_is _ _ (l2 ++ encL z2 ws) (l2 ++ encL z2 ws) true _ HB1.out HR5.out.1 (beq_self_eq_true _)).mono ?_
            rintro e w5 ⟨rfl, rfl⟩
            have hBs : wB.heap.size ≤ w5.heap.size := by have := c2.size; have := c4.size; have := b5.size; omega
            have hBo : wB.heap.size ≤ wo.heap.size := c2.size
            have hkm : ws.length < 50 := by have := HK.out; omega
            go_wp2_with (at_builtin; refine wpList_append_own_at _ rfl (.tmp 88) (.tmp 90) 39 rfl wB.heap.size 3 i0 (.int .i64 0) 1 8 Tryd.underlying39 hi hz0 hz1 hz2 rfl (by decide) _ _ _ rfl (HR5.out.2.1.alloc _) ⟨w5.heap.size, 0, none⟩ 1 1 [.int .i64 ((m : Int) + (sumL ws : Int))] rfl rfl (cell_one_new _ _ _) (fun q hq => by simp at hq; subst hq; rfl) (by unfold maxLen; omega) (by omega) (by simp; omega) ?_)
            intro vf2 w6 hf2 g1 _ a1
            have HU6 := Lib.hid (HR5.out.used g1)
            have hs6 : w5.heap.size + 1 ≤ w6.heap.size := by have := g1.size; simp at this; omega
            go_wp2_with (at_builtin; refine wpList_append_own_at _ rfl (.tmp 92) (.tmp 94) 39 rfl wB.heap.size 3 i0 (.int .i64 0) 1 8 Tryd.underlying39 hi hz0 hz1 hz2 rfl (by decide) _ _ _ rfl (HU6.out.alloc _) ⟨w6.heap.size, 0, none⟩ 1 1 [.int .i64 (x : Int)] rfl rfl (cell_one_new _ _ _) (fun q hq => by simp at hq; subst hq; rfl) (by unfold maxLen; omega) (by omega) (by simp; omega) ?_)
            intro vu2 w7 hu2 g2 _ a2
            have hst := RT.step (x := x) HR2.out b5 (by exact (show isW (x : Int) = true ∧ fitsV u (x : Int) = true ∧ x ≤ 8 from ⟨HX.out, HF.out, by omega⟩).1) (by rw [HUD.out]; exact (show isW (x : Int) = true ∧ fitsV u (x : Int) = true ∧ x ≤ 8 from ⟨HX.out, HF.out, by omega⟩).2.1) (by have := HZ2.out.1; have := HK.out; omega) (by have := c4.size; omega) (by rw [HUD.out]; exact H5.out) _ _ (by rw [Int.natCast_add]) rfl hf2 g1 a1 hu2 g2 a2
            have HR7 := Lib.hid hst.1
            have c7 : Below wB.heap.size wB w7 := ((c2.trans (c4.mono hBo)).trans (b5.mono (by have := c4.size; omega))).trans hst.2
            clear hst hf2 g1 a1 hu2 g2 a2 HU6 H5 HR5 HR2 HB1 hcut5 hR c2 c4 b5
            go_wp2_with fail
            go_roundw
            case rel =>
              refine ⟨ws ++ [x], by rw [List.length_append, List.length_singleton]; have := HK.out; omega, ?_, ?_, ?_, HR7, c7⟩
              · rw [List.length_append, List.length_singleton, HK.out]; go_num
              · exact congrArg (Value.int .i64) (by rw [sumL_append, sumL_one]; omega)
              · rw [sumL_append, sumL_one, List.length_append, List.length_singleton, HK.out]
                omega
            case measure => simp [intOf]; omega
    · obtain ⟨k, hk⟩ : ∃ k, ws.length = k := ⟨_, rfl⟩
      obtain rfl : k = m1 := by omega
      have HK := Lib.hid hk
      rw [hk] at hsum
      rw [hk]
      clear hk hws hlt
      have hsk : sumL ws ≤ 400 := by omega
      clear hsum
      have HF := Lib.hid (own_cells hR.out.2.1 (offL_length m ws))
      have HFu := Lib.hid (own_cells hR.out.2.2.1 rfl)
      have HFit := Lib.hid hR.out.2.2.2.2.2
      have HBO := Lib.hid hR.out.1
      rw [HK.out] at HF HFu
      have HLen : Hid ((l2 ++ encL z2 ws).length = m + sumL ws) := by show _ = _; rw [List.length_append, HM.out.2, encL_length z2 ws (by have := HZ2.out.1; have := HK.out; omega)]
      obtain ⟨p8, c8, hv8, hc8, _⟩ := hR.out.1
      rw [HLen.out] at hv8 hc8
      clear hR
      subst hv8
      have hcut8 := run_upto p8 (m + sumL ws) c8 m (by omega)
      have HB8 : Hid (BytesAt wr (.slice p8 m c8) l2) := by
        have hb := HBO.out.upto (m := m) (by omega)
        rw [List.take_left' HM.out.2] at hb
        exact hb
      have HVk := Lib.hid (HVB.out.below c2)
      have HGk := Lib.hid (HG.out.below c2)
      have HZk := Lib.hid (HZB.out.below c2)
      have HTk := Lib.hid (HTB.out.below c2)
      have c0 : Below w.heap.size w wr := c1.trans (c2.mono c1.size)
      clear HVB HG HZB HTB c1 c2 hc8
      obtain ⟨wo, rfl⟩ : ∃ wo : World, wo = wr := ⟨_, rfl⟩
      go_wp2_with fail
      go_loopw [103] (fun vi wr => ∃ j : Nat, j ≤ k ∧ vi = .int .i64 j ∧ Below wo.heap.size wo wr) (fun vi _ => k - (intOf vi).toNat)
      case atStart => exact ⟨0, Nat.zero_le _, rfl, Below.refl _ _⟩
      case round =>
        obtain ⟨j, hj, rfl, c3⟩ := hrel
        by_cases hlt : j < k
        · obtain ⟨gf, cf, hvf, hcf⟩ := HF.out (by omega)
          obtain ⟨gu, cu, hvu, hcu⟩ := HFu.out (by omega)
          have hcf := hcf j hlt
          have hcu := hcu j hlt
          have hcf2 : wr.cell? ⟨gf, j, none⟩ = some (.int .i64 (((offL m ws).getD j 0 : Nat) : Int)) := by rw [c3.cell (p := ⟨gf, j, none⟩) (World.block_lt_of_cell? wo _ hcf), hcf]
          have hcu2 : wr.cell? ⟨gu, j, none⟩ = some (.int .i64 ((ws.getD j 0 : Nat) : Int)) := by rw [c3.cell (p := ⟨gu, j, none⟩) (World.block_lt_of_cell? wo _ hcu), hcu]
          obtain ⟨b0, o0, hp1, hcz⟩ : ∃ b0 o0, p1 = some ⟨b0, o0, none⟩ ∧ wr.cell? ⟨b0, o0 + j, none⟩ = some (.int .u64 ((z2.getD j 0 : Nat) : Int)) := by
            obtain ⟨p', c', he, _, _, hp⟩ := HZk.out.below c3
            obtain ⟨b, o, rfl, hc⟩ := hp (by have := HZ2.out.1; omega)
            cases he
            exact ⟨b, o, rfl, hc j (by have := HZ2.out.1; omega)⟩
          have HU := Lib.hid (uintV_enc (lb := l2) (zs := z2) (ws := ws) (j := j) (by have := HK.out; omega) (by have := HK.out; have := HZ2.out.1; omega) HFit.out)
          rw [HM.out.2, ← offL_getD m ws j (by have := HK.out; omega)] at HU
          clear hcf hcu
          subst hvf hvu hp1
          generalize (offL m ws).getD j 0 = x1 at *
          generalize ws.getD j 0 = x2 at *
          generalize z2.getD j 0 = u at *
          go_wp2_with fail
          go_region_held3 (fun w' => w'.cell? ⟨gf, j, none⟩ = some (.int .i64 (x1 : Int)) ∧ w'.cell? ⟨gu, j, none⟩ = some (.int .i64 (x2 : Int)) ∧ Below wo.heap.size wo w')
            (first
              | exact ⟨hcf2, hcu2, c3.drew⟩
              | go_keep
              | exact ⟨by assumption, by assumption, by assumption⟩
              | (go_split_ands
                 refine ⟨?_, ?_, ?_⟩
                 · rw [b1.cell (p := ⟨gf, j, none⟩) (World.block_lt_of_cell? _ _ (by assumption))]; assumption
                 · rw [b1.cell (p := ⟨gu, j, none⟩) (World.block_lt_of_cell? _ _ (by assumption))]; assumption
                 · exact Below.trans (by assumption) (b1.mono (Below.size (by assumption)))))
            (first | (go_at_call 15; refine (uint_is _ (l2 ++ encL z2 ws) u u _ _ 0 _ rfl (HBO.out.below (by first | exact c3.drew | assumption)) (by rw [HLen.out]; omega) HU.out).mono ?_; rintro e w1 ⟨rfl, b1⟩))
          have c4 : Below wo.heap.size wo w1 := c3.drew.trans (b1.mono c3.drew.size)
          clear b1
          go_wp2_with fail
          go_roundw
          case rel => exact ⟨j + 1, by omega, by go_num, c4⟩
          case measure => simp [intOf]; omega
        · obtain rfl : j = k := by omega
          go_wp2_with fail
          refine (equal_is _ _ l2 l2 true _ (HVk.out.below c3) (HGk.out.below c3) (beq_self_eq_true _)).mono ?_
          rintro e w8 ⟨rfl, rfl⟩
          go_wp2_with fail
          refine (equal_is _ _ l2 l2 true _ (HB8.out.below c3) (HGk.out.below c3) (beq_self_eq_true _)).mono ?_
          rintro e w8 ⟨rfl, rfl⟩
          have c1 := c0.trans (c3.mono c0.size)
          go_wp2_with fail
          refine (works_any _ (HTk.out.below c3)).mono ?_
          rintro e w9 ⟨rfl, b1⟩
          have c2 := c1.trans (b1.mono c1.size)
          go_wp2_with fail
          go_ret
          exact ⟨rfl, c2⟩
end Go.Proofs.YtmfdfpebbnagfaaDoor
