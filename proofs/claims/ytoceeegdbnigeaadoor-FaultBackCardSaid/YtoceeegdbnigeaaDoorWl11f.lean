/-
  FaultBack: the walk.
  Conditions: the library's tables and variables lie in the world.
-/
import Derived.Test.YtoceeegdbnigeaaDoorWl11a
import Derived.Test.YtoceeegdbnigeaaDoorMade11
import Derived.Test.YtoceeegdbnigeaaDoorSame11
import Derived.Test.YtoceeegdbnigeaaDoorLit11
import Derived.Deep.RegionHeld3
set_option linter.unusedVariables false
namespace Go.Proofs.YtoceeegdbnigeaaDoor
open Go Go.RowKit

theorem keep_getD (K : List Int) (i : Nat) (h : i < K.length) : (K.map fun k => pack (dS k)).getD i ⟨#[]⟩ = dB (K.getD i 0) := by
  rw [List.getD, List.getD, List.getElem?_map, List.getElem?_eq_getElem h]
  rfl
set_option maxRecDepth 100000 in
set_option maxHeartbeats 8000000 in
theorem walkFaultBack (a0 : Int) (ws0 : (Lit.int .u32 a0).wf = true) (d : Bool) (v : Value) (L : List Nat) (m : Int) (w : World) (hv : U16At w v L) (ht : Tab w) (he : Errs w) (hm : w.cell? ⟨0, 0, none⟩ = some (.int .i64 m)) :
    Calls Tryd.prog 7 #[.int .u32 a0, .bool d, v] w fun e w' => e = .returned (.bool true) ∧ Below w.heap.size w w' := by
  have HT := Lib.hid ht
  have HE := Lib.hid he
  have HM := Lib.hid hm
  have h0 := lit_u32 ws0
  clear ht he hm ws0
  have hok := made_ok h0.1 L
  have HM0 := Lib.hid (made_any a0 h0 d v L w hv)
  obtain ⟨A, hA⟩ : ∃ A, madeA a0 = A := ⟨_, rfl⟩
  obtain ⟨K, hK⟩ : ∃ K, madeL L = K := ⟨_, rfl⟩
  rw [hA, hK] at hok HM0
  obtain ⟨q0, q1, q2, q3, q4⟩ := planOK_parts hok
  obtain ⟨r, hr⟩ : ∃ r : ByteArray, r.data.toList = textB A d K := ⟨pack (textB A d K), pack_data _⟩
  obtain ⟨g0, g1, g2, g3⟩ := good_text hok hr
  obtain ⟨f1, f2, f3, f4⟩ := p_good g0
  obtain ⟨n, hn⟩ : ∃ n, K.length = n := ⟨_, rfl⟩
  obtain ⟨D, hD⟩ : ∃ D, dB A = D := ⟨_, rfl⟩
  have HOK := Lib.hid hok
  have HTX := Lib.hid hr
  have HNn := Lib.hid hn
  have HD := Lib.hid hD
  have HA0 := Lib.hid q0
  have HA1 := Lib.hid q1
  have HK1 := Lib.hid q2
  have HKl := Lib.hid q3
  have HKe := Lib.hid q4
  have HPE : Hid (planE A K = 0) := by show _ = _; unfold planE; rw [if_pos hok]
  have HG : Hid (pA r = A ∧ pD r = d ∧ pL r = K ∧ pE r = 0) := ⟨f1.trans g1, f2.trans g2, f3.trans g3, f4⟩
  have HSp := Lib.hid (pcS_text hr)
  have HSq := Lib.hid (pcS_keep (L := K) q2)
  have hks := keepT_len K 34 (fun k hk => by have := q4 k hk; omega) q3
  have HRS : Hid (r.size ≤ 1000000) := by
    show r.size ≤ 1000000
    rw [← str_len, hr, textB_eq, List.length_append]
    have h1 := dS_len A q1
    simp
    omega
  have HKS : Hid ((pack (keepT K)).size ≤ 1000000) := by show _ ≤ _; rw [pack_size]; omega
  have hn34 : n ≤ 34 := by omega
  clear hok hr g0 g1 g2 g3 f1 f2 f3 f4 q0 q1 q2 q3 q4 hA hK hks h0 hv hD
  go_enter Tryd.func7, Tryd.ntmps7
  go_wp2_with fail
  refine HM0.out.mono ?_
  rintro y w1 ⟨p, c, rfl, hi, b1⟩
  rw [hn] at hi ⊢
  clear hn
  have a2 := (Below.refl w1.heap.size w1).alloc (Nat.le_refl _) (.cells #[.int .i64 A, .bool d, .slice p n c] 24)
  obtain ⟨k0, k1, k2⟩ := planAt_new w1 A d (.slice p n c) 24
  have c1 := b1.trans (a2.mono b1.size)
  have hN := IntsAt.below (IntsNew.at hi) a2
  have HN := Lib.hid hN
  obtain ⟨_, _, he, _, hcell⟩ := hN
  injection he with e1 e3 e2
  subst e1 e2
  clear e3
  obtain ⟨b, o, rfl, hci⟩ := hcell (by have := HNn.out; have := HK1.out; omega)
  clear hi a2 b1 hcell hci
  obtain ⟨P, hP⟩ : ∃ P, w1.heap.size = P := ⟨_, rfl⟩
  rw [hP] at k0 k1 k2
  cases d
  · skip
    go_wp2_with fail
    refine (fText_good A false _ K _ HN.out (HT.out.below c1) r HOK.out HTX.out).mono ?_
    rintro e wt ⟨rfl, b1⟩
    replace k0 := cell_kept k0 b1
    replace k1 := cell_kept k1 b1
    replace k2 := cell_kept k2 b1
    have hN2 := Lib.hid (HN.out.below b1); clear HN
    have HN := hN2; clear hN2
    have c2 := c1.trans (b1.mono c1.size); clear c1 b1
    have c1 := c2; clear c2
    go_wp2_with fail
    refine (parse_any r HRS.out m _ (HT.out.below c1) (HE.out.below c1) (cell_kept HM.out c1)).mono ?_
    rintro e wu ⟨⟨v', rfl, hn⟩, b1⟩
    rw [HG.out.1, HG.out.2.1, HG.out.2.2.2]
    rw [HG.out.2.2.1] at hn
    obtain ⟨p2, n2, rfl⟩ := ownsRow_slice hn
    rw [HNn.out] at hn ⊢
    replace k0 := cell_kept k0 b1
    replace k1 := cell_kept k1 b1
    replace k2 := cell_kept k2 b1
    have hN2 := Lib.hid (HN.out.below b1); clear HN
    have HN := hN2; clear hN2
    have c2 := c1.trans (b1.mono c1.size); clear c1 b1
    have c1 := c2; clear c2
    have b1 := (Below.refl wu.heap.size wu).alloc (Nat.le_refl _) (.cells #[.int .i64 A, .bool false, .slice p2 n n2] 24)
    obtain ⟨r0, r1, r2⟩ := planAt_new wu A false (.slice p2 n n2) 24
    have HN6 := Lib.hid (IntsAt.below (IntsNew.at hn) b1)
    clear hn
    replace k0 := cell_kept k0 b1
    replace k1 := cell_kept k1 b1
    replace k2 := cell_kept k2 b1
    have hN2 := Lib.hid (HN.out.below b1); clear HN
    have HN := hN2; clear hN2
    have c2 := c1.trans (b1.mono c1.size); clear c1 b1
    have c1 := c2; clear c2
    go_wp2_with fail
    refine (same2_any A false _ K A false _ K _ HN.out HN6.out (by have := HKl.out; omega) (by have := HKl.out; omega)).mono ?_
    rw [sameB_self]
    rintro e wv ⟨rfl, b1⟩
    clear HN6 r0 r1 r2
    replace k0 := cell_kept k0 b1
    replace k1 := cell_kept k1 b1
    replace k2 := cell_kept k2 b1
    have hN2 := Lib.hid (HN.out.below b1); clear HN
    have HN := hN2; clear hN2
    have c2 := c1.trans (b1.mono c1.size); clear c1 b1
    have c1 := c2; clear c2
    go_wp2_with fail
    refine (fcheck_any A false _ K _ HN.out (by have := HKl.out; omega)).mono ?_
    rw [HPE.out]
    rintro e ww ⟨rfl, b1⟩
    replace k0 := cell_kept k0 b1
    replace k1 := cell_kept k1 b1
    replace k2 := cell_kept k2 b1
    have hN2 := Lib.hid (HN.out.below b1); clear HN
    have HN := hN2; clear hN2
    have c2 := c1.trans (b1.mono c1.size); clear c1 b1
    have c1 := c2; clear c2
    go_wp2_with fail
    refine (splitp_any r HRS.out 32 m _ (cell_kept HM.out c1)).mono ?_
    rw [HSp.out, show ([pack (dS A), pack (doneL false), pack (keepT K)] : List ByteArray).length = 3 from rfl]
    rintro e wb ⟨rfl, hx, b1⟩
    have x0 := hx 0 (by omega)
    have x1 := hx 1 (by omega)
    have x2 := hx 2 (by omega)
    replace k0 := cell_kept k0 b1
    replace k1 := cell_kept k1 b1
    replace k2 := cell_kept k2 b1
    have hN2 := Lib.hid (HN.out.below b1); clear HN
    have HN := hN2; clear hN2
    have c2 := c1.trans (b1.mono c1.size); clear c1 b1
    have c1 := c2; clear c2
    have HC := Lib.hid c1
    have HNb := HN
    clear hx c1 HN
    have c1 := Below.refl wb.heap.size wb
    have hDD : (D.toList == D.toList) = true := beq_self_eq_true _
    have x0' : wb.cell? ⟨ww.heap.size, 0, none⟩ = some (.string D) := by rw [← HD.out]; exact x0
    obtain ⟨Y, hY⟩ : ∃ Y, doneB false = Y := ⟨_, rfl⟩
    have x1' : wb.cell? ⟨ww.heap.size, 1, none⟩ = some (.string Y) := by rw [← hY]; exact x1
    have y1 : (Y.toList == [121]) = false := by rw [← hY, ByteArray.toList_eq]; decide
    have y2 : (Y.toList == [110]) = !false := by rw [← hY, ByteArray.toList_eq]; decide
    have y2' : (Y.toList == [110]) = true := y2
    clear hY y2
    have x2' : wb.cell? ⟨ww.heap.size, 2, none⟩ = some (.string (pack (keepT K))) := x2
    clear x0 x1 x2
    have x0 := x0'
    have x1 := x1'
    have x2 := x2'
    clear x0' x1' x2'
    go_wp2_with fail
    go_region_held3 (fun w' => w'.cell? ⟨P, 0, none⟩ = some (.int .i64 A) ∧ w'.cell? ⟨P, 1, none⟩ = some (.bool false) ∧ w'.cell? ⟨P, 2, none⟩ = some (.slice (some ⟨b, o, none⟩) n c) ∧ w'.cell? ⟨ww.heap.size, 0, none⟩ = some (.string D) ∧ w'.cell? ⟨ww.heap.size, 1, none⟩ = some (.string Y) ∧ w'.cell? ⟨ww.heap.size, 2, none⟩ = some (.string (pack (keepT K))) ∧ Below wb.heap.size wb w')
      (first
        | exact ⟨k0, k1, k2, x0, x1, x2, c1.drew⟩
        | exact ⟨by assumption, by assumption, by assumption, by assumption, by assumption, by assumption, by assumption⟩
        | (go_split_ands; exact ⟨cell_kept (by assumption) b1, cell_kept (by assumption) b1, cell_kept (by assumption) b1, cell_kept (by assumption) b1, cell_kept (by assumption) b1, cell_kept (by assumption) b1, Below.trans (by assumption) (b1.mono (Below.size (by assumption)))⟩))
      (first
        | (go_at_call 31; go_split_ands; refine (itoa_is A HA0.out HA1.out D HD.out _ ((HT.out.below HC.out).below (by assumption))).mono ?_; rintro y w2 ⟨rfl, b1⟩))
    go_split_ands
    have c1 := (show Below wb.heap.size wb w2 by assumption)
    replace k0 := (show w2.cell? ⟨P, 0, none⟩ = some (.int .i64 A) by assumption)
    replace k1 := (show w2.cell? ⟨P, 1, none⟩ = some (.bool false) by assumption)
    replace k2 := (show w2.cell? ⟨P, 2, none⟩ = some (.slice (some ⟨b, o, none⟩) n c) by assumption)
    have x2 := (show w2.cell? ⟨ww.heap.size, 2, none⟩ = some (.string (pack (keepT K))) by assumption)
    go_wp2_with fail
    refine (splitp_any (pack (keepT K)) HKS.out 44 m _ (cell_kept (cell_kept HM.out HC.out) c1)).mono ?_
    rw [HSq.out, List.length_map, HNn.out]
    rintro e w6 ⟨rfl, hz, b1⟩
    have hZ : Hid (∀ j, j < n → w6.cell? ⟨w2.heap.size, j, none⟩ = some (.string (dB (K.getD j 0)))) := fun j hj => by
      have h := hz j hj
      rw [keep_getD K j (by rw [HNn.out]; exact hj)] at h
      exact h
    clear hz x2
    replace k0 := cell_kept k0 b1
    replace k1 := cell_kept k1 b1
    replace k2 := cell_kept k2 b1
    have c2 := c1.trans (b1.mono c1.size); clear c1 b1
    have c1 := c2; clear c2
    have hnn : ((n : Int) != (n : Int)) = false := by rw [bne_eq_false_iff_eq]
    go_wp2_with fail
    go_loopw [90] (fun vi wr => ∃ i : Nat, i ≤ n ∧ vi = .int .i64 i ∧ Hid (∀ j, j < n → wr.cell? ⟨w2.heap.size, j, none⟩ = some (.string (dB (K.getD j 0)))) ∧ Below wb.heap.size wb wr) (fun vi _ => n - (intOf vi).toNat)
    case atStart => exact ⟨0, Nat.zero_le _, rfl, hZ, c1⟩
    case round =>
      clear hZ k0 k1 k2 c1
      obtain ⟨i, hi, rfl, hZ, c1⟩ := hrel
      by_cases hlt : i < n
      · have hz := hZ.out i hlt
        obtain ⟨_, _, he, _, hcell⟩ := HNb.out.below c1
        injection he with e1 e3 e2
        subst e1 e2
        clear e3
        obtain ⟨_, _, he, hci⟩ := hcell (by have := HNn.out; omega)
        injection he with he
        injection he with e1 e2
        subst e1 e2
        have hci := hci i (by have := HNn.out; omega)
        have hkb := HKe.out (K.getD i 0) (by rw [List.getD, List.getElem?_eq_getElem (by rw [HNn.out]; exact hlt)]; exact List.getElem_mem _)
        obtain ⟨k, hk⟩ : ∃ k, K.getD i 0 = k := ⟨_, rfl⟩
        rw [hk] at hz hci hkb
        obtain ⟨E, hE⟩ : ∃ E, dB k = E := ⟨_, rfl⟩
        rw [hE] at hz
        have HEk := Lib.hid hE
        have HKB := Lib.hid hkb
        have hEE : (E.toList == E.toList) = true := beq_self_eq_true _
        have hb1 : (0 : Int) ≤ (i : Int) := by omega
        have hb2 : (i : Int) < (n : Int) := by omega
        have hb3 : (i : Int) ≤ (n : Int) := by omega
        have cr := Below.refl wr.heap.size wr
        clear hcell hk hE hkb
        go_wp2_with fail
        go_region_held3 (fun w' => w'.cell? ⟨w2.heap.size, i, none⟩ = some (.string E) ∧ Below wr.heap.size wr w')
          (first
            | exact ⟨hz, cr.drew⟩
            | exact ⟨by assumption, by assumption⟩
            | (go_split_ands; exact ⟨cell_kept (by assumption) b1, Below.trans (by assumption) (b1.mono (Below.size (by assumption)))⟩))
          (first
            | (go_at_call 31; go_split_ands; refine (itoa_is k HKB.out.1 (by have := HKB.out.2; omega) E HEk.out _ (((HT.out.below HC.out).below c1).below (by assumption))).mono ?_; rintro y w7 ⟨rfl, b1⟩))
        go_split_ands
        have hcr := (show Below wr.heap.size wr w7 by assumption)
        go_wp2_with fail
        go_roundw
        case rel => exact ⟨i + 1, by omega, by go_num, (fun j hj => cell_kept (hZ.out j hj) hcr), c1.trans (hcr.mono c1.size)⟩
        case measure => simp [intOf]; omega
      · obtain rfl : i = n := by omega
        clear hZ hi hlt
        have c9 := HC.out.trans (c1.mono HC.out.size)
        go_wp2_with fail
        refine (works_any m _ (HT.out.below c9) (HE.out.below c9) (cell_kept HM.out c9)).mono ?_
        rintro y w8 ⟨rfl, b1⟩
        have c3 := c9.trans (b1.mono c9.size)
        clear c9 b1
        go_wp2_with fail
        go_ret
        exact ⟨rfl, c3⟩
  · skip
    go_wp2_with fail
    refine (fText_good A true _ K _ HN.out (HT.out.below c1) r HOK.out HTX.out).mono ?_
    rintro e wt ⟨rfl, b1⟩
    replace k0 := cell_kept k0 b1
    replace k1 := cell_kept k1 b1
    replace k2 := cell_kept k2 b1
    have hN2 := Lib.hid (HN.out.below b1); clear HN
    have HN := hN2; clear hN2
    have c2 := c1.trans (b1.mono c1.size); clear c1 b1
    have c1 := c2; clear c2
    go_wp2_with fail
    refine (parse_any r HRS.out m _ (HT.out.below c1) (HE.out.below c1) (cell_kept HM.out c1)).mono ?_
    rintro e wu ⟨⟨v', rfl, hn⟩, b1⟩
    rw [HG.out.1, HG.out.2.1, HG.out.2.2.2]
    rw [HG.out.2.2.1] at hn
    obtain ⟨p2, n2, rfl⟩ := ownsRow_slice hn
    rw [HNn.out] at hn ⊢
    replace k0 := cell_kept k0 b1
    replace k1 := cell_kept k1 b1
    replace k2 := cell_kept k2 b1
    have hN2 := Lib.hid (HN.out.below b1); clear HN
    have HN := hN2; clear hN2
    have c2 := c1.trans (b1.mono c1.size); clear c1 b1
    have c1 := c2; clear c2
    have b1 := (Below.refl wu.heap.size wu).alloc (Nat.le_refl _) (.cells #[.int .i64 A, .bool true, .slice p2 n n2] 24)
    obtain ⟨r0, r1, r2⟩ := planAt_new wu A true (.slice p2 n n2) 24
    have HN6 := Lib.hid (IntsAt.below (IntsNew.at hn) b1)
    clear hn
    replace k0 := cell_kept k0 b1
    replace k1 := cell_kept k1 b1
    replace k2 := cell_kept k2 b1
    have hN2 := Lib.hid (HN.out.below b1); clear HN
    have HN := hN2; clear hN2
    have c2 := c1.trans (b1.mono c1.size); clear c1 b1
    have c1 := c2; clear c2
    go_wp2_with fail
    refine (same2_any A true _ K A true _ K _ HN.out HN6.out (by have := HKl.out; omega) (by have := HKl.out; omega)).mono ?_
    rw [sameB_self]
    rintro e wv ⟨rfl, b1⟩
    clear HN6 r0 r1 r2
    replace k0 := cell_kept k0 b1
    replace k1 := cell_kept k1 b1
    replace k2 := cell_kept k2 b1
    have hN2 := Lib.hid (HN.out.below b1); clear HN
    have HN := hN2; clear hN2
    have c2 := c1.trans (b1.mono c1.size); clear c1 b1
    have c1 := c2; clear c2
    go_wp2_with fail
    refine (fcheck_any A true _ K _ HN.out (by have := HKl.out; omega)).mono ?_
    rw [HPE.out]
    rintro e ww ⟨rfl, b1⟩
    replace k0 := cell_kept k0 b1
    replace k1 := cell_kept k1 b1
    replace k2 := cell_kept k2 b1
    have hN2 := Lib.hid (HN.out.below b1); clear HN
    have HN := hN2; clear hN2
    have c2 := c1.trans (b1.mono c1.size); clear c1 b1
    have c1 := c2; clear c2
    go_wp2_with fail
    refine (splitp_any r HRS.out 32 m _ (cell_kept HM.out c1)).mono ?_
    rw [HSp.out, show ([pack (dS A), pack (doneL true), pack (keepT K)] : List ByteArray).length = 3 from rfl]
    rintro e wb ⟨rfl, hx, b1⟩
    have x0 := hx 0 (by omega)
    have x1 := hx 1 (by omega)
    have x2 := hx 2 (by omega)
    replace k0 := cell_kept k0 b1
    replace k1 := cell_kept k1 b1
    replace k2 := cell_kept k2 b1
    have hN2 := Lib.hid (HN.out.below b1); clear HN
    have HN := hN2; clear hN2
    have c2 := c1.trans (b1.mono c1.size); clear c1 b1
    have c1 := c2; clear c2
    have HC := Lib.hid c1
    have HNb := HN
    clear hx c1 HN
    have c1 := Below.refl wb.heap.size wb
    have hDD : (D.toList == D.toList) = true := beq_self_eq_true _
    have x0' : wb.cell? ⟨ww.heap.size, 0, none⟩ = some (.string D) := by rw [← HD.out]; exact x0
    obtain ⟨Y, hY⟩ : ∃ Y, doneB true = Y := ⟨_, rfl⟩
    have x1' : wb.cell? ⟨ww.heap.size, 1, none⟩ = some (.string Y) := by rw [← hY]; exact x1
    have y1 : (Y.toList == [121]) = true := by rw [← hY, ByteArray.toList_eq]; decide
    have y2 : (Y.toList == [110]) = !true := by rw [← hY, ByteArray.toList_eq]; decide
    have y2' : (Y.toList == [110]) = false := y2
    clear hY y2
    have x2' : wb.cell? ⟨ww.heap.size, 2, none⟩ = some (.string (pack (keepT K))) := x2
    clear x0 x1 x2
    have x0 := x0'
    have x1 := x1'
    have x2 := x2'
    clear x0' x1' x2'
    go_wp2_with fail
    go_region_held3 (fun w' => w'.cell? ⟨P, 0, none⟩ = some (.int .i64 A) ∧ w'.cell? ⟨P, 1, none⟩ = some (.bool true) ∧ w'.cell? ⟨P, 2, none⟩ = some (.slice (some ⟨b, o, none⟩) n c) ∧ w'.cell? ⟨ww.heap.size, 0, none⟩ = some (.string D) ∧ w'.cell? ⟨ww.heap.size, 1, none⟩ = some (.string Y) ∧ w'.cell? ⟨ww.heap.size, 2, none⟩ = some (.string (pack (keepT K))) ∧ Below wb.heap.size wb w')
      (first
        | exact ⟨k0, k1, k2, x0, x1, x2, c1.drew⟩
        | exact ⟨by assumption, by assumption, by assumption, by assumption, by assumption, by assumption, by assumption⟩
        | (go_split_ands; exact ⟨cell_kept (by assumption) b1, cell_kept (by assumption) b1, cell_kept (by assumption) b1, cell_kept (by assumption) b1, cell_kept (by assumption) b1, cell_kept (by assumption) b1, Below.trans (by assumption) (b1.mono (Below.size (by assumption)))⟩))
      (first
        | (go_at_call 31; go_split_ands; refine (itoa_is A HA0.out HA1.out D HD.out _ ((HT.out.below HC.out).below (by assumption))).mono ?_; rintro y w2 ⟨rfl, b1⟩))
    go_split_ands
    have c1 := (show Below wb.heap.size wb w2 by assumption)
    replace k0 := (show w2.cell? ⟨P, 0, none⟩ = some (.int .i64 A) by assumption)
    replace k1 := (show w2.cell? ⟨P, 1, none⟩ = some (.bool true) by assumption)
    replace k2 := (show w2.cell? ⟨P, 2, none⟩ = some (.slice (some ⟨b, o, none⟩) n c) by assumption)
    have x2 := (show w2.cell? ⟨ww.heap.size, 2, none⟩ = some (.string (pack (keepT K))) by assumption)
    go_wp2_with fail
    refine (splitp_any (pack (keepT K)) HKS.out 44 m _ (cell_kept (cell_kept HM.out HC.out) c1)).mono ?_
    rw [HSq.out, List.length_map, HNn.out]
    rintro e w6 ⟨rfl, hz, b1⟩
    have hZ : Hid (∀ j, j < n → w6.cell? ⟨w2.heap.size, j, none⟩ = some (.string (dB (K.getD j 0)))) := fun j hj => by
      have h := hz j hj
      rw [keep_getD K j (by rw [HNn.out]; exact hj)] at h
      exact h
    clear hz x2
    replace k0 := cell_kept k0 b1
    replace k1 := cell_kept k1 b1
    replace k2 := cell_kept k2 b1
    have c2 := c1.trans (b1.mono c1.size); clear c1 b1
    have c1 := c2; clear c2
    have hnn : ((n : Int) != (n : Int)) = false := by rw [bne_eq_false_iff_eq]
    go_wp2_with fail
    go_loopw [90] (fun vi wr => ∃ i : Nat, i ≤ n ∧ vi = .int .i64 i ∧ Hid (∀ j, j < n → wr.cell? ⟨w2.heap.size, j, none⟩ = some (.string (dB (K.getD j 0)))) ∧ Below wb.heap.size wb wr) (fun vi _ => n - (intOf vi).toNat)
    case atStart => exact ⟨0, Nat.zero_le _, rfl, hZ, c1⟩
    case round =>
      clear hZ k0 k1 k2 c1
      obtain ⟨i, hi, rfl, hZ, c1⟩ := hrel
      by_cases hlt : i < n
      · have hz := hZ.out i hlt
        obtain ⟨_, _, he, _, hcell⟩ := HNb.out.below c1
        injection he with e1 e3 e2
        subst e1 e2
        clear e3
        obtain ⟨_, _, he, hci⟩ := hcell (by have := HNn.out; omega)
        injection he with he
        injection he with e1 e2
        subst e1 e2
        have hci := hci i (by have := HNn.out; omega)
        have hkb := HKe.out (K.getD i 0) (by rw [List.getD, List.getElem?_eq_getElem (by rw [HNn.out]; exact hlt)]; exact List.getElem_mem _)
        obtain ⟨k, hk⟩ : ∃ k, K.getD i 0 = k := ⟨_, rfl⟩
        rw [hk] at hz hci hkb
        obtain ⟨E, hE⟩ : ∃ E, dB k = E := ⟨_, rfl⟩
        rw [hE] at hz
        have HEk := Lib.hid hE
        have HKB := Lib.hid hkb
        have hEE : (E.toList == E.toList) = true := beq_self_eq_true _
        have hb1 : (0 : Int) ≤ (i : Int) := by omega
        have hb2 : (i : Int) < (n : Int) := by omega
        have hb3 : (i : Int) ≤ (n : Int) := by omega
        have cr := Below.refl wr.heap.size wr
        clear hcell hk hE hkb
        go_wp2_with fail
        go_region_held3 (fun w' => w'.cell? ⟨w2.heap.size, i, none⟩ = some (.string E) ∧ Below wr.heap.size wr w')
          (first
            | exact ⟨hz, cr.drew⟩
            | exact ⟨by assumption, by assumption⟩
            | (go_split_ands; exact ⟨cell_kept (by assumption) b1, Below.trans (by assumption) (b1.mono (Below.size (by assumption)))⟩))
          (first
            | (go_at_call 31; go_split_ands; refine (itoa_is k HKB.out.1 (by have := HKB.out.2; omega) E HEk.out _ (((HT.out.below HC.out).below c1).below (by assumption))).mono ?_; rintro y w7 ⟨rfl, b1⟩))
        go_split_ands
        have hcr := (show Below wr.heap.size wr w7 by assumption)
        go_wp2_with fail
        go_roundw
        case rel => exact ⟨i + 1, by omega, by go_num, (fun j hj => cell_kept (hZ.out j hj) hcr), c1.trans (hcr.mono c1.size)⟩
        case measure => simp [intOf]; omega
      · obtain rfl : i = n := by omega
        clear hZ hi hlt
        have c9 := HC.out.trans (c1.mono HC.out.size)
        go_wp2_with fail
        refine (works_any m _ (HT.out.below c9) (HE.out.below c9) (cell_kept HM.out c9)).mono ?_
        rintro y w8 ⟨rfl, b1⟩
        have c3 := c9.trans (b1.mono c9.size)
        clear c9 b1
        go_wp2_with fail
        go_ret
        exact ⟨rfl, c3⟩
end Go.Proofs.YtoceeegdbnigeaaDoor
