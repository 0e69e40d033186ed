/-
  What value.Check, Text, Parse compute, on lists of bytes.
  Conditions: at most 2^45 bytes.
-/
import Derived.Test.YtmkeiphhenhhbaaDoorHex
set_option linter.unusedVariables false
namespace Go.Proofs.YtmkeiphhenhhbaaDoor
open Go Go.RowKit

theorem vcheck_any (s : ByteArray) (most : Int) (w : World) :
    Calls Tryd.prog 14 #[.string s, .int .i64 most] w fun e w' => e = .returned (.int .i64 (checkV s.size most)) ∧ w' = w := by
  rcases (show most < 0 ∨ 512 < most ∨ (0 ≤ most ∧ most ≤ 512 ∧ most < (s.size : Int)) ∨ (0 ≤ most ∧ most ≤ 512 ∧ (s.size : Int) ≤ most) by omega) with h | h | ⟨h, h', h2⟩ | ⟨h, h', h2⟩
  all_goals
    go_enter Tryd.func14, Tryd.ntmps14
    go_wp2
    go_ret
    exact ⟨ret_int (by unfold checkV; repeat (first | split | omega)), rfl⟩

set_option maxHeartbeats 1000000 in
theorem vtext_any (s : ByteArray) (w : World) :
    Calls Tryd.prog 16 #[.string s] w fun e w' => e = .returned (.tuple #[.string ⟨(textV s.data.toList).1.toArray⟩, .int .i64 (textV s.data.toList).2]) ∧ Below w.heap.size w w' := by
  have hcv := fun (wx : World) (s : ByteArray) => run_bytes_of_string (P := Tryd.prog) wx 9 35 5 s Tryd.underlying9 Tryd.underlying35 Tryd.underlying5
  by_cases h1 : 512 < s.size
  · have h2 := checkV_large (n := s.size) (m := 512) (by omega) (by omega) (by omega)
    have HT := Lib.hid (textV_large h1)
    have H2 := Lib.hid h2; clear h2
    go_enter Tryd.func16, Tryd.ntmps16
    go_wp2_with (go_at_call 14; refine (keeps (vcheck_any _ _ _)).mono ?_; rw [H2.out]; rintro e w' ⟨rfl, rfl⟩)
    go_ret2
    exact ⟨by rw [HT.out]; rfl, Below.refl _ _⟩
  · have H2 := Lib.hid (checkV_ok (n := s.size) (m := 512) (by omega) (by omega) (by omega))
    by_cases h3 : s.size = 0
    · have h4 := isEmpty_true h3
      have HT := Lib.hid (textV_none h3)
      clear h3
      go_enter Tryd.func16, Tryd.ntmps16
      go_wp2_with (go_at_call 14; refine (keeps (vcheck_any _ _ _)).mono ?_; rw [H2.out]; rintro e w' ⟨rfl, rfl⟩)
      go_ret2
      exact ⟨by rw [HT.out]; rfl, Below.refl _ _⟩
    · have h4 := isEmpty_false h3
      have HT := Lib.hid (textV_some h1 h3)
      clear h3
      have hsl := str_len s
      have hbs := BytesAt.of_string w s 5 (grownCap w s.size 0 5) (grownCap_ge w s.size 0 5)
      go_enter Tryd.func16, Tryd.ntmps16
      have HB := Lib.hid hbs; clear hbs
      have HS := Lib.hid hsl; clear hsl
      go_wp2_with (go_at_call 14; refine (keeps (vcheck_any _ _ _)).mono ?_; rw [H2.out]; rintro e w' ⟨rfl, rfl⟩)
      refine (hex_any _ s.data.toList _ (BytesAt.drew (HB.out _)) (by rw [HS.out]; omega)).mono ?_
      rintro e w2 ⟨rfl, hb2⟩
      go_wp2
      go_ret2
      exact ⟨by rw [HT.out]; rfl, (((Below.refl w.heap.size w).alloc (Nat.le_refl _) _).drew).trans (hb2.mono (by simp))⟩

set_option maxHeartbeats 1000000 in
theorem vparse_any (s : ByteArray) (w : World) (hl : s.size ≤ 35184372088832) :
    Calls Tryd.prog 18 #[.string s] w fun e w' => e = .returned (.tuple #[.string ⟨(parseV s.data.toList).1.toArray⟩, .int .i64 (parseV s.data.toList).2]) ∧ Below w.heap.size w w' := by
  by_cases h1 : s.data.toList = [45]
  · have h2 := is_true h1
    have HT := Lib.hid (parseV_dash h1)
    clear h1
    go_enter Tryd.func18, Tryd.ntmps18
    go_wp2_with fail
    go_ret2
    exact ⟨by rw [HT.out]; rfl, Below.refl _ _⟩
  · have h2 := is_false h1
    have H1 := Lib.hid h1; clear h1
    by_cases h3 : s.size = 0
    · have h4 := isEmpty_true h3
      have HT := Lib.hid (parseV_empty (l := s.data.toList) (by rw [str_len]; exact h3))
      clear h3
      go_enter Tryd.func18, Tryd.ntmps18
      go_wp2_with fail
      go_ret2
      exact ⟨by rw [HT.out]; rfl, Below.refl _ _⟩
    · have h4 := isEmpty_false h3
      have H3 : Hid (¬ s.data.toList.length = 0) := by show ¬ _; rw [str_len]; exact h3
      clear h3
      go_enter Tryd.func18, Tryd.ntmps18
      go_wp2_with fail
      refine (parseHex_any s _ hl).mono ?_
      rintro e w2 ⟨v1, v2, rfl, hp, hb⟩
      rcases hp with ⟨hn, rfl, rfl⟩ | ⟨t, hn, hbt, rfl⟩
      · have HT := Lib.hid (parseV_bad H1.out H3.out hn); clear hn
        go_wp2_with fail
        go_ret2
        exact ⟨by rw [HT.out]; rfl, hb⟩
      · have hcv := hbt.convert (P := Tryd.prog) 35 9 5 Tryd.underlying35 Tryd.underlying5 Tryd.underlying9
        obtain ⟨p, c, rfl, hc, _⟩ := hbt
        by_cases h5 : 512 < t.length
        · have HT := Lib.hid (parseV_large H1.out H3.out hn h5); clear hn
          go_wp2_with fail
          go_ret2
          exact ⟨by rw [HT.out]; rfl, hb⟩
        · have HT := Lib.hid (parseV_ok H1.out H3.out hn h5); clear hn
          go_wp2_with fail
          go_ret2
          exact ⟨by rw [HT.out]; rfl, hb⟩
end Go.Proofs.YtmkeiphhenhhbaaDoor
