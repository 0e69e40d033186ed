/-
  What value.Repeat and value.Short compute, on lists of bytes: both build their result in a strings.Builder.
  Conditions: a pattern, or a string, of at most 2^45 bytes; for Short the library's table of powers of ten reads as its initialiser lays it.
-/
import Derived.Test.YtmkeiphhenhhbaaDoorHex
import Derived.Test.YtmkeiphhenhhbaaDoorBuilder
import Derived.Test.YtmkeiphhenhhbaaDoorTab
set_option linter.unusedVariables false
namespace Go.Proofs.YtmkeiphhenhhbaaDoor
open Go Go.RowKit

set_option maxHeartbeats 1000000 in
theorem vrepeat_zero (s : ByteArray) (w : World) :
    Calls Tryd.prog 20 #[.string s, .int .i64 0] w fun e w' => e = .returned (.tuple #[.string ⟨#[]⟩, .int .i64 0]) ∧ Below w.heap.size w w' := by
  have HF := Lib.hid (Lib.fresh_isBuilder 41 5 w)
  obtain ⟨b0, hE⟩ : ∃ b : Bool, s.toList.isEmpty = b := ⟨_, rfl⟩
  cases b0
  all_goals
    go_enter Tryd.func20, Tryd.ntmps20
    go_wp2_with fail
    refine wp_loop_rounds 1 ?_
    rw [rounds_succ]
    go_wp2_with (go_at_call 29; refine (Tryd.Builder_String_any w.heap.size w.heap.size [] _ HF.out (by simp)).mono ?_; rintro e w2 ⟨rfl, hb2⟩)
    go_ret2
    exact ⟨rfl, ((Below.refl w.heap.size w).alloc (Nat.le_refl _) _).trans hb2⟩

set_option maxHeartbeats 1000000 in
theorem vrepeat_pos (s : ByteArray) (n : Nat) (w : World) (h0 : ¬ s.size = 0) (h1 : n ≤ 512) :
    Calls Tryd.prog 20 #[.string s, .int .i64 (n : Int)] w fun e w' => e = .returned (.tuple #[.string ⟨(repL s.data.toList n).toArray⟩, .int .i64 0]) ∧ Below w.heap.size w w' := by
  have HF := Lib.hid (Lib.fresh_isBuilder 41 5 w)
  have hE := isEmpty_false h0
  have hpos : 0 < s.size := by omega
  have HL := Lib.hid (str_len s)
  clear h0
  go_enter Tryd.func20, Tryd.ntmps20
  go_wp2_with fail
  go_loopw [23] (fun vi wr => ∃ k : Nat, k ≤ n ∧ vi = .int .i64 k ∧ Hid (Lib.IsBuilder 41 5 w.heap.size w.heap.size (Lib.byteCells (repL s.data.toList k)) wr) ∧ Below w.heap.size w wr) (fun vi _ => n - (intOf vi).toNat)
  case atStart => exact ⟨0, Nat.zero_le _, rfl, HF, (Below.refl w.heap.size w).alloc (Nat.le_refl _) _⟩
  case round =>
    obtain ⟨k, hk, rfl, hbd, hbr⟩ := hrel
    by_cases hlt : k < n
    · obtain ⟨x, hx⟩ : ∃ x : UInt8, x = s.data.toList.getD (k % s.size) 0 := ⟨_, rfl⟩
      have hix := run_str_at (P := Tryd.prog) s 9 Tryd.underlying9 .i64 ((k : Int) % (s.size : Int)) (k % s.size) (by omega) (Nat.mod_lt _ hpos) x hx
      have HN : Hid (repL s.data.toList (k + 1) = repL s.data.toList k ++ [x]) := by show _ = _; rw [repL_succ, HL.out, hx]
      clear hx
      have hlen : (Lib.byteCells (repL s.data.toList k)).length ≤ 512 := by rw [Lib.byteCells_length, repL_length]; omega
      go_wp2_with fail
      refine (writeByte_any w.heap.size w.heap.size _ _ _ hbd.out (by omega) hbr.size).mono ?_
      rintro e w2 ⟨rfl, hbd2, hb2⟩
      go_wp2_with fail
      go_roundw
      case rel => exact ⟨k + 1, by omega, by go_num, Lib.hid (by rw [HN.out, ← byteCells_snoc1]; exact Or.inr hbd2), hbr.trans hb2⟩
      case measure => simp [intOf]; omega
    · have hkn : k = n := by omega
      subst hkn
      go_wp2_with fail
      refine (Tryd.Builder_String_any w.heap.size w.heap.size _ _ hbd.out hbr.size).mono ?_
      rintro e w2 ⟨rfl, hb2⟩
      go_wp2_with fail
      go_ret2
      exact ⟨rfl, hbr.trans hb2⟩

theorem vrepeat_any (s : ByteArray) (n : Int) (w : World) :
    Calls Tryd.prog 20 #[.string s, .int .i64 n] w fun e w' => e = .returned (.tuple #[.string ⟨(repeatV s.data.toList n).1.toArray⟩, .int .i64 (repeatV s.data.toList n).2]) ∧ Below w.heap.size w w' := by
  by_cases hn : n < 0
  · have HT := Lib.hid (repeatV_neg (p := s.data.toList) hn)
    go_enter Tryd.func20, Tryd.ntmps20
    go_wp2_with fail
    go_ret2
    exact ⟨by rw [HT.out]; rfl, Below.refl _ _⟩
  · obtain ⟨m, rfl⟩ := Int.eq_ofNat_of_zero_le (show 0 ≤ n by omega)
    by_cases hs : s.size = 0
    · by_cases hm : m = 0
      · subst hm
        have e0 := repeatV_ok (p := s.data.toList) (n := 0) (by omega) (by omega)
        rw [e0]
        exact vrepeat_zero s w
      · have HT := Lib.hid (repeatV_none (p := s.data.toList) (n := (m : Int)) (by rw [str_len]; exact hs) (by omega))
        have hE := isEmpty_true hs
        have hm0 : 0 < m := by omega
        clear hs hm hn
        go_enter Tryd.func20, Tryd.ntmps20
        go_wp2_with fail
        go_ret2
        exact ⟨by rw [HT.out]; rfl, Below.refl _ _⟩
    · by_cases hm : 512 < m
      · have HT := Lib.hid (repeatV_large (p := s.data.toList) (n := (m : Int)) (by rw [str_len]; exact hs) (by omega))
        have hE := isEmpty_false hs
        clear hs hn
        go_enter Tryd.func20, Tryd.ntmps20
        go_wp2_with fail
        go_ret2
        exact ⟨by rw [HT.out]; rfl, Below.refl _ _⟩
      · rw [repeatV_ok (p := s.data.toList) (n := m) (by rw [str_len]; omega) (by omega)]
        exact vrepeat_pos s m w hs (by omega)

set_option maxHeartbeats 2000000 in
theorem vshort_any (s : ByteArray) (w : World) (ht : Tab w) (hl : s.size ≤ 35184372088832) :
    Calls Tryd.prog 22 #[.string s] w fun e w' => e = .returned (.string ⟨(shortV s.data.toList).toArray⟩) ∧ Below w.heap.size w w' := by
  have HF := Lib.hid (Lib.fresh_isBuilder 41 5 w)
  have hba : Below w.heap.size w (w.alloc (.cells #[.pointer none, .slice none 0 0] 41)) := (Below.refl w.heap.size w).alloc (Nat.le_refl _) _
  have HT := Lib.hid (ht.below hba)
  have HL := Lib.hid (str_len s)
  have hcv := fun (wx : World) (s : ByteArray) => run_bytes_of_string (P := Tryd.prog) wx 9 35 5 s Tryd.underlying9 Tryd.underlying35 Tryd.underlying5
  by_cases h8 : 8 < s.size
  all_goals
    go_enter Tryd.func22, Tryd.ntmps22
    go_wp2_with fail
    refine (itoa_any (s.size : Int) (by omega) (by omega) _ HT.out).mono ?_
    rintro e w2 ⟨rfl, hb2⟩
    have hB2 := Lib.hid (builder_below HF.out hb2)
    have hw2 : Below w.heap.size w w2 := hba.trans (hb2.mono (by simp))
    have hit : (Lib.itoa (s.size : Int)).length ≤ s.size + 1 := by rw [itoa_nat]; exact decDigits_le _
    generalize hI : Lib.itoa (s.size : Int) = I at *
    have HI := Lib.hid hI; clear hI
    go_wp2_with fail
    refine (writeString_any w.heap.size w.heap.size [] _ _ hB2.out (by rw [size_list]; simp; omega) hw2.size).mono ?_
    rintro e w3 ⟨rfl, hB3, hb3⟩
    have hw3 := hw2.trans hb3
    clear hB2 hw2 hb2 hb3 HF HT hba
    have HB3 := Lib.hid hB3; clear hB3
    go_wp2_with fail
    refine (writeByte_any w.heap.size w.heap.size _ _ _ (Or.inr HB3.out) (by simp [strCells_list, Lib.byteCells_length]; omega) hw3.size).mono ?_
    rintro e w4 ⟨rfl, hB4, hb4⟩
    have hw4 := hw3.trans hb4
    clear HB3 hw3 hb4
    have HB4 := Lib.hid hB4; clear hB4
    go_wp2_with fail
    refine (hex_any _ (s.data.toList.take 8) _ (BytesAt.of_slice w4 _ _ _ _ _ _ (min8_list s) (min8_len s) (grownCap_ge _ _ _ _)) (by rw [List.length_take]; omega)).mono ?_
    rintro e w5 ⟨rfl, hb5⟩
    have hb5' : Below w4.heap.size w4 w5 := (((Below.refl w4.heap.size w4).alloc (Nat.le_refl _) _).drew).trans (hb5.mono (by simp))
    have hw5 := hw4.trans (hb5'.mono hw4.size)
    have HB5 := Lib.hid (builder_below (Or.inr HB4.out) hb5')
    clear HB4 hb5 hb5' hw4
    have h16 : (hexL (s.data.toList.take 8)).length ≤ 16 := by rw [hexL_length, List.length_take]; omega
    go_wp2_with fail
    refine (writeString_any w.heap.size w.heap.size _ _ _ HB5.out (by rw [size_list]; simp [strCells_list, Lib.byteCells_length]; omega) hw5.size).mono ?_
    rintro e w6 ⟨rfl, hB6, hb6⟩
    have hw6 := hw5.trans hb6
    clear HB5 hw5 hb6
    have HB6 := Lib.hid hB6; clear hB6
    go_wp2_with fail
  · refine (writeString_any w.heap.size w.heap.size _ _ _ (Or.inr HB6.out) (by simp [strCells_list, Lib.byteCells_length, size_list]; omega) hw6.size).mono ?_
    rintro e w7 ⟨rfl, hB7, hb7⟩
    have hw7 := hw6.trans hb7
    have HB7 := Lib.hid hB7; clear hB7 HB6 hw6
    go_wp2_with fail
    refine (Tryd.Builder_String_any w.heap.size w.heap.size (shortV s.data.toList) _ ?_ hw7.size).mono ?_
    · rw [← short_cells_more h8 HI.out]; exact Or.inr HB7.out
    · rintro e w8 ⟨rfl, hb8⟩
      go_wp2_with fail
      go_ret
      exact ⟨rfl, hw7.trans hb8⟩
  · refine (Tryd.Builder_String_any w.heap.size w.heap.size (shortV s.data.toList) _ ?_ hw6.size).mono ?_
    · rw [← short_cells_few (by omega) HI.out]; exact Or.inr HB6.out
    · rintro e w8 ⟨rfl, hb8⟩
      go_wp2_with fail
      go_ret
      exact ⟨rfl, hw6.trans hb8⟩
end Go.Proofs.YtmkeiphhenhhbaaDoor
