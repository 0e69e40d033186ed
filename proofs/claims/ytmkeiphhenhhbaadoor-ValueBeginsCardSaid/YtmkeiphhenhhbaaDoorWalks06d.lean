/-
  The walk of ValueBegins: it returns true and leaves old memory as it was.
  Conditions: the library's table of powers of ten reads as its initialiser lays it.
-/
import Derived.Test.YtmkeiphhenhhbaaDoorWorks06
import Derived.Test.YtmkeiphhenhhbaaDoorLaws06b
set_option linter.unusedVariables false
namespace Go.Proofs.YtmkeiphhenhhbaaDoor
open Go Go.RowKit

set_option maxHeartbeats 2000000 in
/-- The part behind the first comparison, for one value of 'same'. -/
theorem walkBegins (s t : ByteArray) (hs : s.size ≤ 300) (htz : t.size ≤ 300) (w : World) (ht : Tab w) (sb : Bool)
    (hXY : (shortV s.data.toList == shortV t.data.toList) = sb)
    (hsame : ((s.size : Int) == (t.size : Int)) = false ∧ (s.size == t.size) = false ∧ sb = false ∨
      ((s.size : Int) == (t.size : Int)) = true ∧ (s.size == t.size) = true ∧ ((s.extract 0 (min 8 (s.size : Int)).toNat).toList == (t.extract 0 (min 8 (t.size : Int)).toNat).toList) = sb) :
    Calls Tryd.prog 12 #[.string s, .string t] w fun e w' => e = .returned (.bool true) ∧ Below w.heap.size w w' := by
  have hXl := short_length s.data.toList
  have hRl := shortRest_length s.data.toList
  have hdg := short_digit s.data.toList
  have hcl := short_colon s.data.toList
  have hdd := dec_digits s.data.toList.length
  have hdp := dec_pos s.data.toList.length
  have hdv := dval_dec s.data.toList.length
  have hdt := short_dots s.data.toList
  have htl := dval_take_le (Lib.decDigits s.data.toList.length)
  have hXs := Lib.hid (show shortV s.data.toList = shortV s.data.toList from rfl)
  rw [str_len] at hXl hRl hdg hcl hdd hdp hdv hdt htl
  obtain ⟨X, hX⟩ : ∃ X, shortV s.data.toList = X := ⟨_, rfl⟩
  obtain ⟨Y, hY⟩ : ∃ Y, shortV t.data.toList = Y := ⟨_, rfl⟩
  rw [hX] at hXY hXl hdg hcl hdt
  rw [hY] at hXY
  have hd9 := decDigits_le s.size
  generalize Lib.decDigits s.size = D at *
  have HX := Lib.hid hX
  have HY := Lib.hid hY
  clear hX hY hXs
  obtain ⟨dl, hdl⟩ : ∃ dl, D.length = dl := ⟨_, rfl⟩
  have hd300 : dl ≤ 301 := by omega
  have hD9 : Hid (∀ j, j < dl → X.getD j 0 = D.getD j 0 ∧ 48 ≤ (D.getD j 0).toNat ∧ (D.getD j 0).toNat ≤ 57) := by
    intro j hj
    refine ⟨hdg j (by omega), hdd _ ?_⟩
    rw [List.getD, List.getElem?_eq_getElem (by omega)]
    exact List.getElem_mem _
  have HC : Hid (X.getD dl 0 = 58) := by show _ = _; rw [← hdl]; exact hcl
  have HV : Hid (∀ j, dval (D.take j) ≤ 300) := fun j => by have := htl j; omega
  have HW : Hid (dval (D.take dl) = s.size) := by show _ = _; rw [List.take_of_length_le (by omega)]; exact hdv
  have HS : Hid (∀ j, j < dl → dval (D.take (j + 1)) = dval (D.take j) * 10 + ((D.getD j 0).toNat - 48)) := fun j hj => dval_take_succ D j (by omega)
  have hXl2 : X.length = dl + 1 + (if 8 < s.size then 18 else 2 * s.size) := by rw [hXl, hRl, hdl]
  have hdlp : 0 < dl := by omega
  have hXlt : dl < X.length := by omega
  have hXsz : (⟨X.toArray⟩ : ByteArray).size = X.length := size_list X
  have HZ := Lib.hid hXsz
  have hXb : X.length ≤ 100000 := by
    rw [hXl2]; split <;> omega
  clear hXl hRl hdg hcl hdd hdp hdv htl hXsz hdl
  have hz1 : ((dl : Int) == 0) = false := by rw [beq_eq_false_iff_ne]; omega
  have hz2 : (dl == 0) = false := by rw [beq_eq_false_iff_ne]; omega
  have hdl2 : decide (X.length ≤ dl) = false := by simp; omega
  have hdl3 : decide ((X.length : Int) ≤ (dl : Int)) = false := by simp; omega
  have icol := run_str_at (P := Tryd.prog) ⟨X.toArray⟩ 9 Tryd.underlying9 .i64 (dl : Int) dl rfl (by rw [HZ.out]; exact hXlt) 58 HC.out.symm
  have hvn : (((dval (D.take dl) : Nat) : Int) != (s.size : Int)) = false := by rw [HW.out, bne_eq_false_iff_eq]
  have hvn2 : (dval (D.take dl) != s.size) = false := by rw [HW.out, bne_eq_false_iff_eq]
  have hend : (8 < s.size ∧ ((X.length : Int) - (dl : Int) - 1 == 18) = true ∧ ((⟨X.toArray⟩ : ByteArray).extract (X.length - 2) X.length).toList = [46, 46]) ∨ (¬ 8 < s.size ∧ ((X.length : Int) - (dl : Int) - 1 == 2 * (s.size : Int)) = true) := by
    by_cases h8 : 8 < s.size
    · rw [if_pos h8] at hXl2
      refine Or.inl ⟨h8, by rw [beq_iff_eq]; omega, ?_⟩
      rw [ByteArray.toList_eq, ByteArray.data_extract, Array.toList_extract, List.extract, List.take_of_length_le (by rw [List.length_drop]; simp)]
      exact hdt h8
    · rw [if_neg h8] at hXl2
      exact Or.inr ⟨h8, by rw [beq_iff_eq]; omega⟩
  have HE := Lib.hid hend
  clear hXl2 hend hdt
  rcases hsame with ⟨g1, g2, rfl⟩ | ⟨g1, g2, g3⟩
  all_goals
    go_enter Tryd.func12, Tryd.ntmps12
    go_wp2_with fail
    refine (vshort_at s X _ ht (by omega) HX.out).mono ?_
    rintro e w1 ⟨rfl, b1⟩
    go_wp2_with fail
    refine (vshort_at t Y _ (ht.below b1) (by omega) HY.out).mono ?_
    rintro e w2 ⟨rfl, b2⟩
    have c2 := b1.trans (b2.mono b1.size); clear b1 b2
    go_wp2_with fail
    go_quiet (fail)
    go_wp2_with fail
  all_goals
    go_loopw [8, 9] (fun va vn wr => ∃ j : Nat, j ≤ dl ∧ va = .int .i64 j ∧ vn = .int .i64 ((dval (D.take j) : Nat) : Int) ∧ Below w.heap.size w wr) (fun va _ _ => dl - (intOf va).toNat)
    case atStart => exact ⟨0, Nat.zero_le _, rfl, by simp [dval], below_drewN c2 _⟩
    case round =>
      obtain ⟨j, hj, rfl, rfl, hbr⟩ := hrel
      clear c2
      have hv3 := HV.out j
      by_cases hlt : j < dl
      · obtain ⟨hx1, hx2, hx3⟩ := hD9.out j hlt
        obtain ⟨x, hx⟩ : ∃ x : UInt8, x = D.getD j 0 := ⟨_, rfl⟩
        have i1 := run_str_at (P := Tryd.prog) ⟨X.toArray⟩ 9 Tryd.underlying9 .i64 (j : Int) j rfl (by rw [HZ.out]; omega) x (by rw [hx, hx1])
        have HN : Hid (dval (D.take (j + 1)) = dval (D.take j) * 10 + (x.toNat - 48)) := by show _ = _; rw [HS.out j hlt, hx]
        rw [← hx] at hx2 hx3
        have hv4 := HV.out (j + 1)
        have hv5 : dval (D.take j) * 10 + (x.toNat - 48) ≤ 300 := by rw [← HN.out]; exact hv4
        clear hx hx1 hv4
        go_wp2_with fail
        go_roundw
        case rel => exact ⟨j + 1, by omega, by go_num, by rw [HN.out]; congr 1; omega, hbr⟩
        case measure => simp [intOf]; omega
      · obtain rfl : j = dl := by omega
        rcases HE.out with ⟨h8, e1, e2⟩ | ⟨h8, e1⟩
        · go_wp2_with fail
          refine (works_any _ (ht.below hbr)).mono ?_
          rintro e w4 ⟨rfl, b4⟩
          have c4 := hbr.trans (b4.mono hbr.size); clear b4
          go_wp2_with fail
          go_ret
          exact ⟨rfl, c4⟩
        · go_wp2_with fail
          refine (works_any _ (ht.below hbr)).mono ?_
          rintro e w4 ⟨rfl, b4⟩
          have c4 := hbr.trans (b4.mono hbr.size); clear b4
          go_wp2_with fail
          go_ret
          exact ⟨rfl, c4⟩

theorem walkValueBegins (s : ByteArray) (ws : s.size ≤ maxLen) (t : ByteArray) (wt : t.size ≤ maxLen) (w : World) (ht : Tab w) :
    Calls Tryd.prog 12 #[.string s, .string t] w fun e w' => e = .returned (.bool true) ∧ Below w.heap.size w w' := by
  unfold maxLen at ws wt
  by_cases h : 300 < s.size
  · go_enter Tryd.func12, Tryd.ntmps12
    go_wp2_with (go_at_call 13; refine (works_any _ ht).mono ?_; rintro e w1 ⟨rfl, b1⟩)
    go_ret
    exact ⟨rfl, b1⟩
  · by_cases h' : 300 < t.size
    · go_enter Tryd.func12, Tryd.ntmps12
      go_wp2_with (go_at_call 13; refine (works_any _ ht).mono ?_; rintro e w1 ⟨rfl, b1⟩)
      go_ret
      exact ⟨rfl, b1⟩
    · have key := short_tells s.data.toList t.data.toList
      rw [str_len, str_len] at key
      by_cases hz : s.size = t.size
      · by_cases hp : s.data.toList.take 8 = t.data.toList.take 8
        · refine walkBegins s t (by omega) (by omega) w ht true ?_ (Or.inr ⟨by rw [beq_iff_eq]; omega, by rw [beq_iff_eq]; omega, ?_⟩)
          · rw [beq_iff_eq]; exact key.2 ⟨hz, hp⟩
          · rw [ByteArray.toList_eq, ByteArray.toList_eq, min8_list, min8_list, beq_iff_eq]; exact hp
        · refine walkBegins s t (by omega) (by omega) w ht false ?_ (Or.inr ⟨by rw [beq_iff_eq]; omega, by rw [beq_iff_eq]; omega, ?_⟩)
          · rw [beq_eq_false_iff_ne]; intro e; exact hp (key.1 e).2
          · rw [ByteArray.toList_eq, ByteArray.toList_eq, min8_list, min8_list, beq_eq_false_iff_ne]; exact hp
      · refine walkBegins s t (by omega) (by omega) w ht false ?_ (Or.inl ⟨by rw [beq_eq_false_iff_ne]; omega, by rw [beq_eq_false_iff_ne]; omega, rfl⟩)
        rw [beq_eq_false_iff_ne]; intro e; exact hz (key.1 e).1
end Go.Proofs.YtmkeiphhenhhbaaDoor
