/-
  FaultReadBack: the walk.
  Conditions: the library's tables and variables lie in the world.
-/
import Derived.Test.YtoceeegdbnigeaaDoorWl11a
import Derived.Test.YtoceeegdbnigeaaDoorSame11
import Derived.Test.YtoceeegdbnigeaaDoorFlt2
set_option linter.unusedVariables false
namespace Go.Proofs.YtoceeegdbnigeaaDoor
open Go Go.RowKit

/-- The strings that are not decoded to the same plan. -/
def backX (s : ByteArray) (c : UInt8) : List ByteArray := [⟨#[c]⟩ ++ s, s ++ ⟨#[c]⟩, s ++ ⟨#[44]⟩, ⟨#[32]⟩ ++ s, ⟨#[48]⟩ ++ s]
theorem backX_size (s : ByteArray) (c : UInt8) (i : Nat) (h : i < 5) : ((backX s c).getD i ⟨#[]⟩).size = s.size + 1 := by
  have e : ∀ x : UInt8, (⟨#[x]⟩ : ByteArray).size = 1 := fun _ => rfl
  match i, h with
  | 0, _ => show (⟨#[c]⟩ ++ s : ByteArray).size = _; rw [ByteArray.size_append, e]; omega
  | 1, _ => show (s ++ ⟨#[c]⟩ : ByteArray).size = _; rw [ByteArray.size_append, e]
  | 2, _ => show (s ++ ⟨#[44]⟩ : ByteArray).size = _; rw [ByteArray.size_append, e]
  | 3, _ => show (⟨#[32]⟩ ++ s : ByteArray).size = _; rw [ByteArray.size_append, e]; omega
  | 4, _ => show (⟨#[48]⟩ ++ s : ByteArray).size = _; rw [ByteArray.size_append, e]; omega
/-- Different strings are decoded to different plans. -/
theorem good_differ {s x : ByteArray} (hs : goodP s) (hx : goodP x) (hn : x.size ≠ s.size) : sameB (numN (w3 s 0) : Int) (decide (w3 s 1 = yS)) (kepL s) (numN (w3 x 0) : Int) (decide (w3 x 1 = yS)) (kepL x) = false := by
  cases h : sameB (numN (w3 s 0) : Int) (decide (w3 s 1 = yS)) (kepL s) (numN (w3 x 0) : Int) (decide (w3 x 1 = yS)) (kepL x) with
  | false => rfl
  | true =>
    unfold sameB at h
    simp only [Bool.and_eq_true, decide_eq_true_iff, beq_iff_eq] at h
    obtain ⟨⟨h1, h2⟩, h3⟩ := h
    have e1 := (text_good hs).2
    have e2 := (text_good hx).2
    rw [← h1, ← h2, ← h3, ← e1] at e2
    exact absurd (by rw [← str_len, ← str_len, e2]) hn
set_option maxRecDepth 100000 in
set_option maxHeartbeats 8000000 in
theorem walkFaultReadBack (s : ByteArray) (a1 : Int) (ws1 : (Lit.int .u8 a1).wf = true) (m : Int) (w : World) (ht : Tab w) (he : Errs w) (hm : w.cell? ⟨0, 0, none⟩ = some (.int .i64 m)) :
    Calls Tryd.prog 8 #[.string s, .int .u8 a1] w fun e w' => e = .returned (.bool true) ∧ Below w.heap.size w w' := by
  have HT := Lib.hid ht
  have HE := Lib.hid he
  have HM := Lib.hid hm
  obtain ⟨c, rfl⟩ : ∃ c : UInt8, a1 = (c.toNat : Int) := by
    have h : 0 ≤ a1 ∧ a1 ≤ 255 := by
      have e1 : IntKind.u8.min = 0 := rfl
      have e2 : IntKind.u8.max = 255 := rfl
      simpa [Lit.wf, e1, e2] using ws1
    exact ⟨UInt8.ofNat a1.toNat, by rw [UInt8.toNat_ofNat']; omega⟩
  clear ht he hm ws1
  by_cases hs : 300 < s.size
  · have d1 : decide ((300 : Int) < (s.size : Int)) = true := by rw [decide_eq_true_iff]; omega
    clear hs
    go_enter Tryd.func8, Tryd.ntmps8
    go_wp2_with fail
    refine (works_any m _ HT.out HE.out HM.out).mono ?_
    rintro e w1 ⟨rfl, b1⟩
    go_wp2_with fail
    go_ret
    exact ⟨rfl, b1⟩
  · have d1 : decide ((300 : Int) < (s.size : Int)) = false := by rw [decide_eq_false_iff_not]; omega
    have hs3 : s.size ≤ 300 := by omega
    have HS : Hid (s.size ≤ 1000000) := by show s.size ≤ 1000000; omega
    clear hs
    by_cases hg : goodP s
    · obtain ⟨g1, g2, g3, g4⟩ := p_good hg
      obtain ⟨hok, htx⟩ := text_good hg
      obtain ⟨A, hA⟩ : ∃ A : Int, (numN (w3 s 0) : Int) = A := ⟨_, rfl⟩
      obtain ⟨d, hd⟩ : ∃ d : Bool, decide (w3 s 1 = yS) = d := ⟨_, rfl⟩
      obtain ⟨K, hK⟩ : ∃ K, kepL s = K := ⟨_, rfl⟩
      rw [hA, hK] at hok
      rw [hA, hd, hK] at htx
      have HD : Hid (∀ x : ByteArray, goodP x → x.size ≠ s.size → sameB A d K (numN (w3 x 0) : Int) (decide (w3 x 1 = yS)) (kepL x) = false) := fun x hx hn => by
        have h := good_differ hg hx hn
        rw [hA, hd, hK] at h
        exact h
      have HOK := Lib.hid hok
      have HTX := Lib.hid htx
      have HKl := Lib.hid (planOK_parts hok).2.2.2.1
      have HPE : Hid (planE A K = 0) := by show _ = _; unfold planE; rw [if_pos hok]
      have HG : Hid (pA s = A ∧ pD s = d ∧ pL s = K ∧ pE s = 0) := ⟨g1.trans hA, g2.trans hd, g3.trans hK, g4⟩
      clear hok htx hA hd hK hg g1 g2 g3 g4
      go_enter Tryd.func8, Tryd.ntmps8
      go_wp2_with fail
      refine (parse_any s HS.out m _ HT.out HE.out HM.out).mono ?_
      rintro e w1 ⟨⟨v, rfl, hn⟩, b1⟩
      rw [HG.out.1, HG.out.2.1, HG.out.2.2.2]
      rw [HG.out.2.2.1] at hn
      obtain ⟨p1, n1, rfl⟩ := ownsRow_slice hn
      have c1 := b1.alloc b1.size (.cells #[.int .i64 A, .bool d, .slice p1 K.length n1] 24)
      have a2 := (Below.refl w1.heap.size w1).alloc (Nat.le_refl _) (.cells #[.int .i64 A, .bool d, .slice p1 K.length n1] 24)
      obtain ⟨k0, k1, k2⟩ := planAt_new w1 A d (.slice p1 K.length n1) 24
      have HN := Lib.hid (IntsAt.below (IntsNew.at hn) a2)
      clear b1 a2 hn HG
      obtain ⟨P, hP⟩ : ∃ P, w1.heap.size = P := ⟨_, rfl⟩
      rw [hP] at k0 k1 k2
      go_wp2_with fail
      generalize (w1.alloc (.cells #[.int .i64 A, .bool d, .slice p1 K.length n1] 24)) = w2 at *
      clear hP
      refine (fText_good A d _ K _ HN.out (HT.out.below c1) s HOK.out HTX.out).mono ?_
      rintro e wt ⟨rfl, b1⟩
      replace k0 := cell_kept k0 b1
      replace k1 := cell_kept k1 b1
      replace k2 := cell_kept k2 b1
      have hN2 := Lib.hid (HN.out.below b1); clear HN
      have HN := hN2; clear hN2
      have c2 := c1.trans (b1.mono c1.size); clear c1 b1
      have c1 := c2; clear c2
      have hss : (s.toList == s.toList) = true := beq_self_eq_true _
      go_wp2_with fail
      refine (fcheck_any A d _ K _ HN.out (by have := HKl.out; omega)).mono ?_
      rw [HPE.out]
      rintro e w4 ⟨rfl, b1⟩
      replace k0 := cell_kept k0 b1
      replace k1 := cell_kept k1 b1
      replace k2 := cell_kept k2 b1
      have hN2 := Lib.hid (HN.out.below b1); clear HN
      have HN := hN2; clear hN2
      have c2 := c1.trans (b1.mono c1.size); clear c1 b1
      have c1 := c2; clear c2
      have q1 := conv1 (w4.alloc (.cells #[.int .u8 (c.toNat : Int)] 5)) w4.heap.size c (new_cell _ _ 0 _ rfl)
      have hs4 : (w4.alloc (.cells #[.int .u8 (c.toNat : Int)] 5)).heap.size = w4.heap.size + 1 := by simp
      have q2 := conv1 ((w4.alloc (.cells #[.int .u8 (c.toNat : Int)] 5)).alloc (.cells #[.int .u8 (c.toNat : Int)] 5)) (w4.heap.size + 1) c (by have h := new_cell (w := w4.alloc (.cells #[.int .u8 (c.toNat : Int)] 5)) #[.int .u8 (c.toNat : Int)] 5 0 _ rfl; rw [hs4] at h; exact h)
      have hs5 : ((w4.alloc (.cells #[.int .u8 (c.toNat : Int)] 5)).alloc (.cells #[.int .u8 (c.toNat : Int)] 5)).heap.size = w4.heap.size + 2 := by simp
      have b5 : Below w4.heap.size w4 (((w4.alloc (.cells #[.int .u8 (c.toNat : Int)] 5)).alloc (.cells #[.int .u8 (c.toNat : Int)] 5)).alloc (.cells #[.string (⟨#[c]⟩ ++ s), .string (s ++ ⟨#[c]⟩), .string (s ++ ⟨#[44]⟩), .string (⟨#[32]⟩ ++ s), .string (⟨#[48]⟩ ++ s)] 9)) := (((Below.refl _ _).alloc (Nat.le_refl _) _).alloc (by simp) _).alloc (by rw [hs5]; omega) _
      have hX : ∀ j, j < 5 → (((w4.alloc (.cells #[.int .u8 (c.toNat : Int)] 5)).alloc (.cells #[.int .u8 (c.toNat : Int)] 5)).alloc (.cells #[.string (⟨#[c]⟩ ++ s), .string (s ++ ⟨#[c]⟩), .string (s ++ ⟨#[44]⟩), .string (⟨#[32]⟩ ++ s), .string (⟨#[48]⟩ ++ s)] 9)).cell? ⟨w4.heap.size + 2, j, none⟩ = some (.string ((backX s c).getD j ⟨#[]⟩)) := by
        intro j hj
        have h := fun v hv => new_cell (w := ((w4.alloc (.cells #[.int .u8 (c.toNat : Int)] 5)).alloc (.cells #[.int .u8 (c.toNat : Int)] 5))) #[.string (⟨#[c]⟩ ++ s), .string (s ++ ⟨#[c]⟩), .string (s ++ ⟨#[44]⟩), .string (⟨#[32]⟩ ++ s), .string (⟨#[48]⟩ ++ s)] 9 j v hv
        rw [hs5] at h
        match j, hj with
        | 0, _ => exact h _ rfl
        | 1, _ => exact h _ rfl
        | 2, _ => exact h _ rfl
        | 3, _ => exact h _ rfl
        | 4, _ => exact h _ rfl
      have HX := Lib.hid hX
      clear hX hs4 hs5
      go_wp2_with fail
      have b1 := b5
      clear b5 q1 q2
      generalize (((w4.alloc (.cells #[.int .u8 (c.toNat : Int)] 5)).alloc (.cells #[.int .u8 (c.toNat : Int)] 5)).alloc (.cells #[.string (⟨#[c]⟩ ++ s), .string (s ++ ⟨#[c]⟩), .string (s ++ ⟨#[44]⟩), .string (⟨#[32]⟩ ++ s), .string (⟨#[48]⟩ ++ s)] 9)) = w5 at *
      replace k0 := cell_kept k0 b1
      replace k1 := cell_kept k1 b1
      replace k2 := cell_kept k2 b1
      have hN2 := Lib.hid (HN.out.below b1); clear HN
      have HN := hN2; clear hN2
      have c2 := c1.trans (b1.mono c1.size); clear c1 b1
      have c1 := c2; clear c2
      go_loopw [69] (fun vi wr => ∃ i : Nat, i ≤ 5 ∧ vi = .int .i64 i ∧ Hid (∀ j, j < 5 → wr.cell? ⟨w4.heap.size + 2, j, none⟩ = some (.string ((backX s c).getD j ⟨#[]⟩))) ∧ wr.cell? ⟨P, 0, none⟩ = some (.int .i64 A) ∧ wr.cell? ⟨P, 1, none⟩ = some (.bool d) ∧ wr.cell? ⟨P, 2, none⟩ = some (.slice p1 K.length n1) ∧ Hid (IntsAt wr (.slice p1 K.length n1) K) ∧ Below w.heap.size w wr) (fun vi _ => 5 - (intOf vi).toNat)
      case atStart => exact ⟨0, Nat.zero_le _, rfl, HX, k0, k1, k2, HN, c1⟩
      case round =>
        clear HX k0 k1 k2 HN c1
        obtain ⟨i, hi, rfl, HX, k0, k1, k2, HN, c1⟩ := hrel
        by_cases hlt : i < 5
        · have hci := HX.out i hlt
          have hxs := backX_size s c i hlt
          obtain ⟨x, hx⟩ : ∃ x, (backX s c).getD i ⟨#[]⟩ = x := ⟨_, rfl⟩
          rw [hx] at hci hxs
          have HXS : Hid (x.size ≤ 1000000) := by show x.size ≤ 1000000; omega
          have HXN : Hid (x.size ≠ s.size) := by show x.size ≠ s.size; omega
          clear hx hxs
          by_cases hg : goodP x
          · obtain ⟨g1, g2, g3, g4⟩ := p_good hg
            have hdf := HD.out x hg HXN.out
            have hkl : (kepL x).length ≤ 34 := (planOK_parts (text_good hg).1).2.2.2.1
            obtain ⟨A', hA'⟩ : ∃ A' : Int, (numN (w3 x 0) : Int) = A' := ⟨_, rfl⟩
            obtain ⟨d', hd'⟩ : ∃ d' : Bool, decide (w3 x 1 = yS) = d' := ⟨_, rfl⟩
            obtain ⟨K', hK'⟩ : ∃ K', kepL x = K' := ⟨_, rfl⟩
            rw [hA', hd', hK'] at hdf
            rw [hK'] at hkl
            have HG : Hid (pA x = A' ∧ pD x = d' ∧ pL x = K' ∧ pE x = 0) := ⟨g1.trans hA', g2.trans hd', g3.trans hK', g4⟩
            have HDF := Lib.hid hdf
            have HKL := Lib.hid hkl
            clear hg g1 g2 g3 g4 hA' hd' hK' hdf hkl
            go_wp2_with fail
            refine (parse_any x HXS.out m _ (HT.out.below c1) (HE.out.below c1) (cell_kept HM.out c1)).mono ?_
            rintro e w6 ⟨⟨v, rfl, hn⟩, b1⟩
            rw [HG.out.1, HG.out.2.1, HG.out.2.2.2]
            rw [HG.out.2.2.1] at hn
            obtain ⟨p2, n2, rfl⟩ := ownsRow_slice hn
            have hX2 : Hid (∀ j, j < 5 → w6.cell? ⟨w4.heap.size + 2, j, none⟩ = some (.string ((backX s c).getD j ⟨#[]⟩))) := fun j hj => cell_kept (HX.out j hj) b1
            clear HX hci
            have HX := hX2
            clear hX2
            replace k0 := cell_kept k0 b1
            replace k1 := cell_kept k1 b1
            replace k2 := cell_kept k2 b1
            have hN2 := Lib.hid (HN.out.below b1); clear HN
            have HN := hN2; clear hN2
            have c2 := c1.trans (b1.mono c1.size); clear c1 b1
            have c1 := c2; clear c2
            have b1 := (Below.refl w6.heap.size w6).alloc (Nat.le_refl _) (.cells #[.int .i64 A', .bool d', .slice p2 K'.length n2] 24)
            obtain ⟨r0, r1, r2⟩ := planAt_new w6 A' d' (.slice p2 K'.length n2) 24
            have HN6 := Lib.hid (IntsAt.below (IntsNew.at hn) b1)
            have hX2 : Hid (∀ j, j < 5 → (w6.alloc (.cells #[.int .i64 A', .bool d', .slice p2 K'.length n2] 24)).cell? ⟨w4.heap.size + 2, j, none⟩ = some (.string ((backX s c).getD j ⟨#[]⟩))) := fun j hj => cell_kept (HX.out j hj) b1
            clear HX hn
            have HX := hX2
            clear hX2
            replace k0 := cell_kept k0 b1
            replace k1 := cell_kept k1 b1
            replace k2 := cell_kept k2 b1
            have hN2 := Lib.hid (HN.out.below b1); clear HN
            have HN := hN2; clear hN2
            have c2 := c1.trans (b1.mono c1.size); clear c1 b1
            have c1 := c2; clear c2
            go_wp2_with fail
            refine (same2_any A d _ K A' d' _ K' _ HN.out HN6.out (by have := HKl.out; omega) (by have := HKL.out; omega)).mono ?_
            rw [HDF.out]
            rintro e w7 ⟨rfl, b1⟩
            have hX2 : Hid (∀ j, j < 5 → w7.cell? ⟨w4.heap.size + 2, j, none⟩ = some (.string ((backX s c).getD j ⟨#[]⟩))) := fun j hj => cell_kept (HX.out j hj) b1
            clear HX HN6 r0 r1 r2
            have HX := hX2
            clear hX2
            replace k0 := cell_kept k0 b1
            replace k1 := cell_kept k1 b1
            replace k2 := cell_kept k2 b1
            have hN2 := Lib.hid (HN.out.below b1); clear HN
            have HN := hN2; clear hN2
            have c2 := c1.trans (b1.mono c1.size); clear c1 b1
            have c1 := c2; clear c2
            go_wp2_with fail
            go_roundw
            case rel => exact ⟨i + 1, by omega, by go_num, HX, k0, k1, k2, HN, c1⟩
            case measure => simp [intOf]; omega
          · obtain ⟨g1, g2, g3, g4⟩ := p_bad hg
            have HG : Hid (pA x = 0 ∧ pD x = false ∧ pL x = [] ∧ pE x = 8) := ⟨g1, g2, g3, g4⟩
            clear hg g1 g2 g3 g4
            go_wp2_with fail
            refine (parse_any x HXS.out m _ (HT.out.below c1) (HE.out.below c1) (cell_kept HM.out c1)).mono ?_
            rintro e w6 ⟨⟨v, rfl, hn⟩, b1⟩
            rw [HG.out.1, HG.out.2.1, HG.out.2.2.2]
            rw [HG.out.2.2.1] at hn
            obtain ⟨p2, n2, rfl⟩ := ownsRow_slice hn
            have hX2 : Hid (∀ j, j < 5 → w6.cell? ⟨w4.heap.size + 2, j, none⟩ = some (.string ((backX s c).getD j ⟨#[]⟩))) := fun j hj => cell_kept (HX.out j hj) b1
            clear HX hci
            have HX := hX2
            clear hX2
            replace k0 := cell_kept k0 b1
            replace k1 := cell_kept k1 b1
            replace k2 := cell_kept k2 b1
            have hN2 := Lib.hid (HN.out.below b1); clear HN
            have HN := hN2; clear hN2
            have c2 := c1.trans (b1.mono c1.size); clear c1 b1
            have c1 := c2; clear c2
            have b1 := (Below.refl w6.heap.size w6).alloc (Nat.le_refl _) (.cells #[.int .i64 0, .bool false, .slice p2 0 n2] 24)
            have hX2 : Hid (∀ j, j < 5 → (w6.alloc (.cells #[.int .i64 0, .bool false, .slice p2 0 n2] 24)).cell? ⟨w4.heap.size + 2, j, none⟩ = some (.string ((backX s c).getD j ⟨#[]⟩))) := fun j hj => cell_kept (HX.out j hj) b1
            clear HX hn
            have HX := hX2
            clear hX2
            replace k0 := cell_kept k0 b1
            replace k1 := cell_kept k1 b1
            replace k2 := cell_kept k2 b1
            have hN2 := Lib.hid (HN.out.below b1); clear HN
            have HN := hN2; clear hN2
            have c2 := c1.trans (b1.mono c1.size); clear c1 b1
            have c1 := c2; clear c2
            go_wp2_with fail
            go_roundw
            case rel => exact ⟨i + 1, by omega, by go_num, HX, k0, k1, k2, HN, c1⟩
            case measure => simp [intOf]; omega
        · obtain rfl : i = 5 := by omega
          clear HX k0 k1 k2 HN hi hlt
          go_wp2_with fail
          refine (works_any m _ (HT.out.below c1) (HE.out.below c1) (cell_kept HM.out c1)).mono ?_
          rintro y w8 ⟨rfl, b1⟩
          have c3 := c1.trans (b1.mono c1.size)
          clear c1 b1
          go_wp2_with fail
          go_ret
          exact ⟨rfl, c3⟩
    · obtain ⟨g1, g2, g3, g4⟩ := p_bad hg
      have HG : Hid (pA s = 0 ∧ pD s = false ∧ pL s = [] ∧ pE s = 8) := ⟨g1, g2, g3, g4⟩
      clear hg g1 g2 g3 g4
      go_enter Tryd.func8, Tryd.ntmps8
      go_wp2_with fail
      refine (parse_any s HS.out m _ HT.out HE.out HM.out).mono ?_
      rintro e w1 ⟨⟨v, rfl, hn⟩, b1⟩
      rw [HG.out.1, HG.out.2.1, HG.out.2.2.2]
      rw [HG.out.2.2.1] at hn
      obtain ⟨p1, n1, rfl⟩ := ownsRow_slice hn
      have c1 := b1.alloc b1.size (.cells #[.int .i64 0, .bool false, .slice p1 0 n1] 24)
      obtain ⟨k0, k1, k2⟩ := planAt_new w1 0 false (.slice p1 0 n1) 24
      clear b1 hn HG
      go_wp2_with fail
      refine (same2_any 0 false _ [] 0 false _ [] _ (IntsAt.nil _ _ _) (IntsAt.nil _ _ _) (by decide) (by decide)).mono ?_
      rw [sameB_self]
      rintro e w4 ⟨rfl, b1⟩
      have c5 := c1.trans (b1.mono c1.size)
      clear b1 c1 k0 k1 k2
      go_wp2_with fail
      refine (works_any m _ (HT.out.below c5) (HE.out.below c5) (cell_kept HM.out c5)).mono ?_
      rintro e w6 ⟨rfl, b1⟩
      have c6 := c5.trans (b1.mono c5.size)
      clear b1 c5
      go_wp2_with fail
      go_ret
      exact ⟨rfl, c6⟩
end Go.Proofs.YtoceeegdbnigeaaDoor
