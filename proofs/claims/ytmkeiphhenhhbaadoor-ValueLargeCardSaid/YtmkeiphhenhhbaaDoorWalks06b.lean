/-
  The walks of ValueBack, ValueReads, ValueJoins, ValueLarge: each returns true and leaves old memory as it was.
  Conditions: the library's table of powers of ten reads as its initialiser lays it.
-/
import Derived.Test.YtmkeiphhenhhbaaDoorWorks06
import Derived.Test.YtmkeiphhenhhbaaDoorLaws06
set_option linter.unusedVariables false
namespace Go.Proofs.YtmkeiphhenhhbaaDoor
open Go Go.RowKit

set_option maxHeartbeats 1000000 in
theorem walkValueBack (s : ByteArray) (ws : s.size ≤ maxLen) (w : World) (ht : Tab w) :
    Calls Tryd.prog 7 #[.string s] w fun e w' => e = .returned (.bool true) ∧ Below w.heap.size w w' := by
  unfold maxLen at ws
  by_cases h : 600 < s.size
  · go_enter Tryd.func7, Tryd.ntmps7
    go_wp2_with (go_at_call 13; refine (works_any _ ht).mono ?_; rintro e w1 ⟨rfl, b1⟩)
    go_ret
    exact ⟨rfl, b1⟩
  · by_cases h5 : 512 < s.size
    · have HT := Lib.hid (textV_large h5)
      go_enter Tryd.func7, Tryd.ntmps7
      go_wp2_with fail
      refine (vtext_at s _ _ _ HT.out).mono ?_
      rintro e w1 ⟨rfl, b1⟩
      go_wp2_with fail
      refine (works_any _ (ht.below b1)).mono ?_
      rintro e w2 ⟨rfl, b2⟩
      have c2 := b1.trans (b2.mono b1.size); clear b1 b2
      go_wp2_with fail
      go_ret
      exact ⟨rfl, c2⟩
    · by_cases h0 : s.size = 0
      · obtain rfl : s = ⟨#[]⟩ := by
          apply ByteArray.ext
          exact Array.eq_empty_of_size_eq_zero h0
        clear h0
        go_enter Tryd.func7, Tryd.ntmps7
        go_wp2_with fail
        refine (vtext_at ⟨#[]⟩ [45] 0 _ (by decide)).mono ?_
        rintro e w1 ⟨rfl, b1⟩
        go_wp2_with fail
        refine (vparse_at ⟨#[45]⟩ [] 0 _ (by decide) (by decide)).mono ?_
        rintro e w2 ⟨rfl, b2⟩
        have c2 := b1.trans (b2.mono b1.size); clear b1 b2
        go_wp2_with fail
        refine (vparse_at _ [] 8 _ (by decide) (by decide)).mono ?_
        rintro e w3 ⟨rfl, b3⟩
        have c3 := c2.trans (b3.mono c2.size); clear c2 b3
        go_wp2_with fail
        refine (works_any _ (ht.below c3)).mono ?_
        rintro e w4 ⟨rfl, b4⟩
        have c4 := c3.trans (b4.mono c3.size); clear c3 b4
        go_wp2_with fail
        go_ret
        exact ⟨rfl, c4⟩
      · have hT := textV_some h5 h0
        have hl : (hexL s.data.toList).length = 2 * s.size := by rw [hexL_length, str_len]
        have hP := parse_text (l := s.data.toList) (by rw [str_len]; exact h0) (by rw [str_len]; exact h5)
        have hQ := parse_tail (l := s.data.toList) (by rw [str_len]; exact h0)
        obtain ⟨T, hTT⟩ : ∃ T, hexL s.data.toList = T := ⟨_, rfl⟩
        rw [hTT] at hT hl hP hQ
        have HT := Lib.hid hT
        have HP := Lib.hid hP
        have HQ := Lib.hid hQ
        have hpos : 0 < s.size := by omega
        have hz : ((s.size : Int) == 0) = false := by rw [beq_eq_false_iff_ne]; omega
        clear hT hP hQ hTT h0
        have HL := Lib.hid hl
        have hl1 : T.length ≤ 2 * s.size := by omega
        have hl2 : 2 * s.size ≤ T.length := by omega
        clear hl
        have hne : ((T.length : Int) != 2 * (s.size : Int)) = false := by rw [bne_eq_false_iff_eq]; omega
        go_enter Tryd.func7, Tryd.ntmps7
        go_wp2_with fail
        refine (vtext_at s _ _ _ HT.out).mono ?_
        rintro e w1 ⟨rfl, b1⟩
        go_wp2_with fail
        refine (vparse_at ⟨T.toArray⟩ s.data.toList 0 _ (by rw [size_list]; omega) HP.out).mono ?_
        rw [str_back]
        rintro e w2 ⟨rfl, b2⟩
        have c2 := b1.trans (b2.mono b1.size); clear b1 b2
        go_wp2_with fail
        refine (vparse_at _ [] 8 _ ?_ ?_).mono ?_
        · rw [← str_len, drop1_list T _ rfl, List.length_drop]; omega
        · rw [drop1_list T _ rfl]; exact HQ.out
        rintro e w3 ⟨rfl, b3⟩
        have c3 := c2.trans (b3.mono c2.size); clear c2 b3
        go_wp2_with fail
        refine (works_any _ (ht.below c3)).mono ?_
        rintro e w4 ⟨rfl, b4⟩
        have c4 := c3.trans (b4.mono c3.size); clear c3 b4
        go_wp2_with fail
        go_ret
        exact ⟨rfl, c4⟩

set_option maxHeartbeats 1000000 in
theorem walkValueReads (s : ByteArray) (ws : s.size ≤ maxLen) (w : World) (ht : Tab w) :
    Calls Tryd.prog 8 #[.string s] w fun e w' => e = .returned (.bool true) ∧ Below w.heap.size w w' := by
  unfold maxLen at ws
  by_cases h : 1200 < s.size
  · go_enter Tryd.func8, Tryd.ntmps8
    go_wp2_with (go_at_call 13; refine (works_any _ ht).mono ?_; rintro e w1 ⟨rfl, b1⟩)
    go_ret
    exact ⟨rfl, b1⟩
  · obtain ⟨x, e0, hxe⟩ : ∃ x e, parseV s.data.toList = (x, e) := ⟨_, _, rfl⟩
    have HP := Lib.hid hxe
    rcases textV_lengths _ _ _ hxe with ⟨rfl, hT, hx⟩ | ⟨rfl, rfl | ⟨rfl, hbig⟩⟩
    · have HT := Lib.hid hT
      clear hxe hT
      go_enter Tryd.func8, Tryd.ntmps8
      go_wp2_with fail
      refine (vparse_at s _ _ _ (by omega) HP.out).mono ?_
      rintro e w1 ⟨rfl, b1⟩
      go_wp2_with fail
      refine (vtext_at ⟨x.toArray⟩ s.data.toList 0 _ HT.out).mono ?_
      rw [str_back]
      rintro e w2 ⟨rfl, b2⟩
      have c2 := b1.trans (b2.mono b1.size); clear b1 b2
      go_wp2_with fail
      refine (vcheck_at ⟨x.toArray⟩ 512 0 _ (checkV_ok (by omega) (by omega) (by rw [size_list]; omega))).mono ?_
      rintro e w3 ⟨rfl, rfl⟩
      go_wp2_with fail
      refine (works_any _ (ht.below c2)).mono ?_
      rintro e w4 ⟨rfl, b4⟩
      have c4 := c2.trans (b4.mono c2.size); clear c2 b4
      go_wp2_with fail
      go_ret
      exact ⟨rfl, c4⟩
    · clear hxe
      go_enter Tryd.func8, Tryd.ntmps8
      go_wp2_with fail
      refine (vparse_at s _ _ _ (by omega) HP.out).mono ?_
      rintro e w1 ⟨rfl, b1⟩
      go_wp2_with fail
      refine (works_any _ (ht.below b1)).mono ?_
      rintro e w4 ⟨rfl, b4⟩
      have c4 := b1.trans (b4.mono b1.size); clear b1 b4
      go_wp2_with fail
      go_ret
      exact ⟨rfl, c4⟩
    · clear hxe
      rw [str_len] at hbig
      go_enter Tryd.func8, Tryd.ntmps8
      go_wp2_with fail
      refine (vparse_at s _ _ _ (by omega) HP.out).mono ?_
      rintro e w1 ⟨rfl, b1⟩
      go_wp2_with fail
      refine (works_any _ (ht.below b1)).mono ?_
      rintro e w4 ⟨rfl, b4⟩
      have c4 := b1.trans (b4.mono b1.size); clear b1 b4
      go_wp2_with fail
      go_ret
      exact ⟨rfl, c4⟩

set_option maxHeartbeats 1000000 in
theorem walkValueLarge (s : ByteArray) (ws : s.size ≤ maxLen) (m : Int) (hm : (Lit.int .u16 m).wf = true) (f : Int) (hf : (Lit.int .u16 f).wf = true) (w : World) (ht : Tab w) :
    Calls Tryd.prog 11 #[.string s, .int .u16 m, .int .u16 f] w fun e w' => e = .returned (.bool true) ∧ Below w.heap.size w w' := by
  unfold maxLen at ws
  have hm2 : 0 ≤ m ∧ m ≤ 65535 := by have e1 : IntKind.u16.min = 0 := rfl; have e2 : IntKind.u16.max = 65535 := rfl; simp [Lit.wf, e1, e2] at hm; omega
  have hf2 : 0 ≤ f ∧ f ≤ 65535 := by have e1 : IntKind.u16.min = 0 := rfl; have e2 : IntKind.u16.max = 65535 := rfl; simp [Lit.wf, e1, e2] at hf; omega
  obtain ⟨hm0, hm1⟩ := hm2
  obtain ⟨hf0, hf1⟩ := hf2
  clear hm hf
  by_cases h : 1000 < s.size
  · go_enter Tryd.func11, Tryd.ntmps11
    go_wp2_with (go_at_call 13; refine (works_any _ ht).mono ?_; rintro e w1 ⟨rfl, b1⟩)
    go_ret
    exact ⟨rfl, b1⟩
  · by_cases h5 : 512 < m % 600
    · go_enter Tryd.func11, Tryd.ntmps11
      go_wp2_with fail
      refine (vcheck_at s (m % 600) 2 _ (checkV_arg (Or.inr h5))).mono ?_
      rintro e w1 ⟨rfl, rfl⟩
      go_wp2_with fail
      refine (works_any _ ht).mono ?_
      rintro e w4 ⟨rfl, b4⟩
      go_wp2_with fail
      go_ret
      exact ⟨rfl, b4⟩
    · by_cases hbig : m % 600 < (s.size : Int)
      · have hd : decide ((s.size : Int) ≤ m % 600) = false := by simp; omega
        go_enter Tryd.func11, Tryd.ntmps11
        go_wp2_with fail
        refine (vcheck_at s (m % 600) 12 _ (checkV_large (by omega) (by omega) hbig)).mono ?_
        rintro e w1 ⟨rfl, rfl⟩
        go_wp2_with fail
        refine (vcheck_at s (-1 - f) 2 _ (checkV_arg (Or.inl (by omega)))).mono ?_
        rintro e w1 ⟨rfl, rfl⟩
        go_wp2_with fail
        refine (vcheck_at s (513 + f) 2 _ (checkV_arg (Or.inr (by omega)))).mono ?_
        rintro e w1 ⟨rfl, rfl⟩
        go_wp2_with fail
        refine (works_any _ ht).mono ?_
        rintro e w4 ⟨rfl, b4⟩
        go_wp2_with fail
        go_ret
        exact ⟨rfl, b4⟩
      · go_enter Tryd.func11, Tryd.ntmps11
        go_wp2_with fail
        refine (vcheck_at s (m % 600) 0 _ (checkV_ok (by omega) (by omega) (by omega))).mono ?_
        rintro e w1 ⟨rfl, rfl⟩
        go_wp2_with fail
        refine (vcheck_at s (-1 - f) 2 _ (checkV_arg (Or.inl (by omega)))).mono ?_
        rintro e w1 ⟨rfl, rfl⟩
        go_wp2_with fail
        refine (vcheck_at s (513 + f) 2 _ (checkV_arg (Or.inr (by omega)))).mono ?_
        rintro e w1 ⟨rfl, rfl⟩
        go_wp2_with fail
        refine (works_any _ ht).mono ?_
        rintro e w4 ⟨rfl, b4⟩
        go_wp2_with fail
        go_ret
        exact ⟨rfl, b4⟩

set_option maxHeartbeats 2000000 in
theorem walkValueJoins (s : ByteArray) (ws : s.size ≤ maxLen) (t : ByteArray) (wt : t.size ≤ maxLen) (w : World) (ht : Tab w) :
    Calls Tryd.prog 9 #[.string s, .string t] w fun e w' => e = .returned (.bool true) ∧ Below w.heap.size w w' := by
  unfold maxLen at ws wt
  by_cases h : 300 < s.size
  · go_enter Tryd.func9, Tryd.ntmps9
    go_wp2_with (go_at_call 13; refine (works_any _ ht).mono ?_; rintro e w1 ⟨rfl, b1⟩)
    go_ret
    exact ⟨rfl, b1⟩
  · by_cases h' : 300 < t.size
    · go_enter Tryd.func9, Tryd.ntmps9
      go_wp2_with (go_at_call 13; refine (works_any _ ht).mono ?_; rintro e w1 ⟨rfl, b1⟩)
      go_ret
      exact ⟨rfl, b1⟩
    · obtain ⟨X, hX⟩ : ∃ X, (textV s.data.toList) = (X, (0 : Int)) := by
        by_cases h0 : s.size = 0
        · exact ⟨_, textV_none h0⟩
        · exact ⟨_, textV_some (by omega) h0⟩
      obtain ⟨Y, hY⟩ : ∃ Y, (textV t.data.toList) = (Y, (0 : Int)) := by
        by_cases h0 : t.size = 0
        · exact ⟨_, textV_none h0⟩
        · exact ⟨_, textV_some (by omega) h0⟩
      have HX := Lib.hid hX
      have HY := Lib.hid hY
      have lX' : X.length ≤ 601 := by have := textV_len s.data.toList; rw [hX, str_len] at this; simp only at this; omega
      have lY' : Y.length ≤ 601 := by have := textV_len t.data.toList; rw [hY, str_len] at this; simp only at this; omega
      have hcat : (s ++ t).data.toList = s.data.toList ++ t.data.toList := by simp
      have hcs : (s ++ t).size = s.size + t.size := ByteArray.size_append
      have HEQ : Hid ((X = Y) ↔ s = t) := by
        show (X = Y) ↔ s = t
        constructor
        · intro e
          have := textV_inj (a := s.data.toList) (b := t.data.toList) (by rw [str_len]; omega) (by rw [str_len]; omega) (by rw [hX, hY]; exact e)
          exact WideShapes.bytes_inj this
        · intro e
          subst e
          rw [hX] at hY
          exact (Prod.mk.inj hY).1
      obtain ⟨b, hb1, hb2⟩ : ∃ b : Bool, (X == Y) = b ∧ (s.toList == t.toList) = b := by
        by_cases e : X = Y
        · have e2 := HEQ.out.1 e
          exact ⟨true, by rw [e]; exact beq_self_eq_true _, by rw [e2]; exact beq_self_eq_true _⟩
        · have e2 : ¬ s = t := fun x => e (HEQ.out.2 x)
          refine ⟨false, beq_false_of_ne e, ?_⟩
          rw [ByteArray.toList_eq, ByteArray.toList_eq]
          exact beq_false_of_ne fun x => e2 (WideShapes.bytes_inj x)
      clear HEQ
      by_cases h5 : 512 < s.size + t.size
      · have HZ : Hid (textV (s ++ t).data.toList = ([], 12)) := textV_large (by rw [hcs]; exact h5)
        clear hX hY hcat hcs
        go_enter Tryd.func9, Tryd.ntmps9
        go_wp2_with fail
        refine (vtext_at s _ _ _ HX.out).mono ?_
        rintro e w1 ⟨rfl, b1⟩
        go_wp2_with fail
        refine (vtext_at t _ _ _ HY.out).mono ?_
        rintro e w2 ⟨rfl, b2⟩
        have c2 := b1.trans (b2.mono b1.size); clear b1 b2
        go_wp2_with fail
        refine (vtext_at (s ++ t) _ _ _ HZ.out).mono ?_
        rintro e w3 ⟨rfl, b3⟩
        have c3 := c2.trans (b3.mono c2.size); clear c2 b3
        go_wp2_with fail
        refine (works_any _ (ht.below c3)).mono ?_
        rintro e w4 ⟨rfl, b4⟩
        have c4 := c3.trans (b4.mono c3.size); clear c3 b4
        go_wp2_with fail
        go_ret
        exact ⟨rfl, c4⟩
      · have HL : Hid (∀ Z, (textV (s ++ t).data.toList).1 = Z → textV (s ++ t).data.toList = (Z, 0)) := by
          show ∀ Z, _ → _
          intro Z hZ
          by_cases h0 : (s ++ t).size = 0
          · have := textV_none h0; rw [this] at hZ ⊢; rw [← hZ]
          · have := textV_some (s := s ++ t) (by omega) h0; rw [this] at hZ ⊢; rw [← hZ]
        by_cases hs0 : s.size = 0
        · have hse := isEmpty_true hs0
          have est : s ++ t = t := by
            apply WideShapes.bytes_inj
            rw [hcat, List.eq_nil_of_length_eq_zero (l := s.data.toList) (by rw [str_len]; exact hs0), List.nil_append]
          have HZ := Lib.hid (HL.out Y (by rw [est, hY]))
          clear hX hY hcat hcs hs0 est HL
          go_enter Tryd.func9, Tryd.ntmps9
          go_wp2_with fail
          refine (vtext_at s _ _ _ HX.out).mono ?_
          rintro e w1 ⟨rfl, b1⟩
          go_wp2_with fail
          refine (vtext_at t _ _ _ HY.out).mono ?_
          rintro e w2 ⟨rfl, b2⟩
          have c2 := b1.trans (b2.mono b1.size); clear b1 b2
          go_wp2_with fail
          refine (vtext_at (s ++ t) _ _ _ HZ.out).mono ?_
          rintro e w3 ⟨rfl, b3⟩
          have c3 := c2.trans (b3.mono c2.size); clear c2 b3
          go_wp2_with fail
          refine (works_any _ (ht.below c3)).mono ?_
          rintro e w4 ⟨rfl, b4⟩
          have c4 := c3.trans (b4.mono c3.size); clear c3 b4
          go_wp2_with fail
          go_ret
          exact ⟨rfl, c4⟩
        · by_cases ht0 : t.size = 0
          · have hse := isEmpty_false hs0
            have hte := isEmpty_true ht0
            have est : s ++ t = s := by
              apply WideShapes.bytes_inj
              rw [hcat, List.eq_nil_of_length_eq_zero (l := t.data.toList) (by rw [str_len]; exact ht0), List.append_nil]
            have HZ := Lib.hid (HL.out X (by rw [est, hX]))
            clear hX hY hcat hcs hs0 ht0 est HL
            go_enter Tryd.func9, Tryd.ntmps9
            go_wp2_with fail
            refine (vtext_at s _ _ _ HX.out).mono ?_
            rintro e w1 ⟨rfl, b1⟩
            go_wp2_with fail
            refine (vtext_at t _ _ _ HY.out).mono ?_
            rintro e w2 ⟨rfl, b2⟩
            have c2 := b1.trans (b2.mono b1.size); clear b1 b2
            go_wp2_with fail
            refine (vtext_at (s ++ t) _ _ _ HZ.out).mono ?_
            rintro e w3 ⟨rfl, b3⟩
            have c3 := c2.trans (b3.mono c2.size); clear c2 b3
            go_wp2_with fail
            refine (works_any _ (ht.below c3)).mono ?_
            rintro e w4 ⟨rfl, b4⟩
            have c4 := c3.trans (b4.mono c3.size); clear c3 b4
            go_wp2_with fail
            go_ret
            exact ⟨rfl, c4⟩
          · have hse := isEmpty_false hs0
            have hte := isEmpty_false ht0
            have eX := textV_some (s := s) (by omega) hs0
            have eY := textV_some (s := t) (by omega) ht0
            have eZ := textV_some (s := s ++ t) (by omega) (by omega)
            rw [hX] at eX
            rw [hY] at eY
            have e1 := (Prod.mk.inj eX).1
            have e2 := (Prod.mk.inj eY).1
            have HZ := Lib.hid (HL.out (X ++ Y) (by rw [eZ, hcat, hexL_append, e1, e2]))
            have HA := Lib.hid (str_append X Y)
            clear hX hY hcat hcs hs0 ht0 HL eX eY eZ e1 e2
            go_enter Tryd.func9, Tryd.ntmps9
            go_wp2_with fail
            refine (vtext_at s _ _ _ HX.out).mono ?_
            rintro e w1 ⟨rfl, b1⟩
            go_wp2_with fail
            refine (vtext_at t _ _ _ HY.out).mono ?_
            rintro e w2 ⟨rfl, b2⟩
            have c2 := b1.trans (b2.mono b1.size); clear b1 b2
            go_wp2_with fail
            refine (vtext_at (s ++ t) _ _ _ HZ.out).mono ?_
            rintro e w3 ⟨rfl, b3⟩
            have c3 := c2.trans (b3.mono c2.size); clear c2 b3
            rw [← HA.out]
            go_wp2_with fail
            refine (works_any _ (ht.below c3)).mono ?_
            rintro e w4 ⟨rfl, b4⟩
            have c4 := c3.trans (b4.mono c3.size); clear c3 b4
            go_wp2_with fail
            go_ret
            exact ⟨rfl, c4⟩
end Go.Proofs.YtmkeiphhenhhbaaDoor
