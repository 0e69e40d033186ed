/-
  What the reference of layer 6 computes, on lists of bytes: the same functions as the program's.
  Conditions: at most 2^45 bytes.
-/
import Derived.Test.YtmkeiphhenhhbaaDoorHex
import Derived.Deep.RegionWith
set_option linter.unusedVariables false
namespace Go.Proofs.YtmkeiphhenhhbaaDoor
open Go Go.RowKit

theorem rcheck_any (s : ByteArray) (most : Int) (w : World) :
    Calls Tryd.prog 15 #[.string s, .int .i64 most] w fun e w' => e = .returned (.int .i64 (checkV s.size most)) ∧ w' = w := by
  rcases (show most < 0 ∨ 512 < most ∨ (0 ≤ most ∧ most ≤ 512 ∧ most < (s.size : Int)) ∨ (0 ≤ most ∧ most ≤ 512 ∧ (s.size : Int) ≤ most) by omega) with h | h | ⟨h, h', h2⟩ | ⟨h, h', h2⟩
  all_goals
    go_enter Tryd.func15, Tryd.ntmps15
    go_wp2
    go_ret
    exact ⟨ret_int (by unfold checkV; repeat (first | split | omega)), rfl⟩

theorem rdigit_any (c : Int) (w : World) (h0 : 0 ≤ c) (h1 : c < 256) :
    Calls Tryd.prog 27 #[.int .u8 c] w fun e w' => e = .returned (.int .i64 (nib c)) ∧ w' = w := by
  rcases (show c < 48 ∨ (48 ≤ c ∧ c ≤ 57) ∨ (57 < c ∧ c < 97) ∨ (97 ≤ c ∧ c ≤ 102) ∨ 102 < c by omega) with h | ⟨h, h'⟩ | ⟨h, h'⟩ | ⟨h, h'⟩ | h
  all_goals
    go_enter Tryd.func27, Tryd.ntmps27
    go_wp2
    go_ret
    exact ⟨ret_int (by unfold nib; repeat (first | split | omega)), rfl⟩

set_option maxHeartbeats 1000000 in
theorem rhex_any (s : ByteArray) (w : World) (hl : s.size ≤ 35184372088832) :
    Calls Tryd.prog 25 #[.string s] w fun e w' => e = .returned (.string ⟨(hexL s.data.toList).toArray⟩) ∧ Below w.heap.size w w' := by
  obtain ⟨i0, hi, hz0, hz1, hz2⟩ := info_parts infoU8
  have HL := Lib.hid (str_len s)
  go_enter Tryd.func25, Tryd.ntmps25
  go_wp2_with fail
  go_loopw [3, 4] (fun vo vi wr => ∃ k : Nat, k ≤ s.size ∧ vi = .int .i64 k ∧ Hid (wr.ownsRow w.heap.size 5 1 vo (hexL (s.data.toList.take k)).length (Lib.byteCells (hexL (s.data.toList.take k)))) ∧ Below w.heap.size w wr) (fun _ vi _ => s.size - (intOf vi).toNat)
  case atStart => exact ⟨0, Nat.zero_le _, rfl, Lib.hid (World.ownsRow_nil _ _ _ _), Below.refl _ _⟩
  case round =>
    obtain ⟨k, hk, rfl, hr, hbr⟩ := hrel
    by_cases hlt : k < s.size
    · obtain ⟨x, hx⟩ : ∃ x : UInt8, x = s.data.toList.getD k 0 := ⟨_, rfl⟩
      have hix := run_str_at (P := Tryd.prog) s 9 Tryd.underlying9 .i64 (k : Int) k rfl hlt x hx
      have HX := Lib.hid hx
      clear hx
      have hx8 : x.toNat < 256 := x.toNat_lt
      have i1 := run_digit .u8 ((x.toNat : Int) / 16) (by omega) (by omega)
      have i2 := run_digit .u8 ((x.toNat : Int) % 16) (by omega) (by omega)
      have hnle : (hexL (s.data.toList.take k)).length ≤ 2 * k := by rw [hexL_length, List.length_take]; omega
      have hq1 : IntKind.u8.wrap ((x.toNat : Int) / 16) = (x.toNat : Int) / 16 := by rw [IntKind.wrap_u8]; omega
      have hq2 : IntKind.u8.wrap ((x.toNat : Int) % 16) = (x.toNat : Int) % 16 := by rw [IntKind.wrap_u8]; omega
      have hq3 : (x.toNat : Int).tmod 16 = (x.toNat : Int) % 16 := Int.tmod_eq_emod_of_nonneg (by omega)
      go_wp2_with fail
      go_region_law (refine step_append_lies _ rfl (.tmp 11) (.tmp 22) 35 rfl w.heap.size 5 i0 (.int .u8 0) 1 1 Tryd.underlying35 hi hz0 hz1 hz2 rfl (by decide) u3 _ _ rfl ((hr.out.alloc _).drew) ⟨wr.heap.size, 0, none⟩ 2 2 [.int .u8 ((hexD ((x.toNat : Int) / 16).toNat).toNat : Int), .int .u8 ((hexD ((x.toNat : Int) % 16).toNat).toNat : Int)] rfl rfl (World.news_of_block (cs := #[.int .u8 ((hexD ((x.toNat : Int) / 16).toNat).toNat : Int), .int .u8 ((hexD ((x.toNat : Int) % 16).toNat).toNat : Int)]) (t := 5) (fr := (0, 0)) (heap_alloc_new wr _)) (by intro u hu; simp at hu; rcases hu with rfl | rfl <;> rfl) (by decide) (by unfold maxLen; omega) (by omega) (by have := hbr.size; simp; omega) _ rfl ?_; intro g cap w2 hown2 hgrow2 hgc hlt2)
      all_goals
        go_wp2_with fail
        go_roundw
        case rel => exact ⟨k + 1, by omega, by go_num, Lib.hid (owns_hex (by rw [HL.out]; exact hlt) HX.out hown2), ((hbr.alloc hbr.size _).drew).grown hgrow2 (by have := hbr.size; simp; omega) (fun j hj => (hr.out.lt j hj).1)⟩
        case measure => simp [intOf]; omega
    · have hkl : s.data.toList.take k = s.data.toList := List.take_of_length_le (by rw [HL.out]; omega)
      have hcv := fun (wx : World) (hx : BytesAt wx u3 (hexL (s.data.toList.take k))) => hx.convert (P := Tryd.prog) 35 9 5 Tryd.underlying35 Tryd.underlying5 Tryd.underlying9
      rw [hkl] at hcv
      have hr2 := hr.out
      rw [hkl] at hr2
      have hcv2 := hcv wr (BytesAt.of_owns hr2)
      clear hcv hr2 hkl
      go_wp2_with fail
      go_ret
      exact ⟨rfl, hbr⟩

theorem rtext_any (s : ByteArray) (w : World) :
    Calls Tryd.prog 17 #[.string s] w fun e w' => e = .returned (.tuple #[.string ⟨(textV s.data.toList).1.toArray⟩, .int .i64 (textV s.data.toList).2]) ∧ Below w.heap.size w w' := by
  by_cases h1 : 512 < s.size
  · have HT := Lib.hid (textV_large h1)
    go_enter Tryd.func17, Tryd.ntmps17
    go_wp2_with fail
    go_ret2
    exact ⟨by rw [HT.out]; rfl, Below.refl _ _⟩
  · by_cases h3 : s.size = 0
    · have h4 := isEmpty_true h3
      have HT := Lib.hid (textV_none h3)
      clear h3
      go_enter Tryd.func17, Tryd.ntmps17
      go_wp2_with fail
      go_ret2
      exact ⟨by rw [HT.out]; rfl, Below.refl _ _⟩
    · have h4 := isEmpty_false h3
      have HT := Lib.hid (textV_some h1 h3)
      clear h3
      go_enter Tryd.func17, Tryd.ntmps17
      go_wp2_with (go_at_call 25; refine (rhex_any s _ (by omega)).mono ?_; rintro e w2 ⟨rfl, hb2⟩)
      go_ret2
      exact ⟨by rw [HT.out]; rfl, hb2⟩

set_option maxHeartbeats 2000000 in
theorem rparse_any (s : ByteArray) (w : World) (hl : s.size ≤ 35184372088832) :
    Calls Tryd.prog 19 #[.string s] w fun e w' => e = .returned (.tuple #[.string ⟨(parseV s.data.toList).1.toArray⟩, .int .i64 (parseV s.data.toList).2]) ∧ Below w.heap.size w w' := by
  obtain ⟨i0, hi, hz0, hz1, hz2⟩ := info_parts infoU8
  have HL := Lib.hid (str_len s)
  by_cases h1 : s.data.toList = [45]
  · have h2 := is_true h1
    have HT := Lib.hid (parseV_dash h1)
    clear h1
    go_enter Tryd.func19, Tryd.ntmps19
    go_wp2_with fail
    go_ret2
    exact ⟨by rw [HT.out]; rfl, Below.refl _ _⟩
  · have h2 := is_false h1
    have H1 := Lib.hid h1; clear h1
    by_cases h3 : s.size = 0
    · have h4 : (s.size == 0) = true := by simp [h3]
      have h5 : ((s.size : Int) == 0) = true := by simp [h3]
      have HT := Lib.hid (parseV_empty (l := s.data.toList) (by rw [str_len]; exact h3))
      clear h3
      go_enter Tryd.func19, Tryd.ntmps19
      go_wp2_with fail
      go_ret2
      exact ⟨by rw [HT.out]; rfl, Below.refl _ _⟩
    · have h4 : (s.size == 0) = false := by simp [h3]
      have h5 : ((s.size : Int) == 0) = false := by rw [beq_eq_false_iff_ne]; omega
      have H3 : Hid (¬ s.data.toList.length = 0) := by show ¬ _; rw [str_len]; exact h3
      clear h3
      by_cases hodd : s.size % 2 = 1
      · have HT := Lib.hid (parseV_bad H1.out H3.out (unhex_odd _ (by rw [str_len]; exact hodd)))
        have h6 : ((s.size : Int) % 2 == 1) = true := by rw [beq_iff_eq]; omega
        clear hodd
        go_enter Tryd.func19, Tryd.ntmps19
        go_wp2_with fail
        go_ret2
        exact ⟨by rw [HT.out]; rfl, Below.refl _ _⟩
      · have h6 : ((s.size : Int) % 2 == 1) = false := by rw [beq_eq_false_iff_ne]; omega
        have HE : Hid (s.size % 2 = 0) := by show s.size % 2 = 0; omega
        clear hodd
        go_enter Tryd.func19, Tryd.ntmps19
        go_wp2_with fail
        go_loopw [4, 5] (fun vo vi wr => ∃ (j : Nat) (acc : List UInt8), j ≤ s.size ∧ vi = .int .i64 j ∧ Hid (j % 2 = 0) ∧ Hid (unhex (s.data.toList.take j) = some acc) ∧ Hid (wr.ownsRow w.heap.size 5 1 vo acc.length (Lib.byteCells acc)) ∧ Below w.heap.size w wr) (fun _ vi _ => s.size - (intOf vi).toNat)
        case atStart => exact ⟨0, [], Nat.zero_le _, rfl, rfl, rfl, Lib.hid (World.ownsRow_nil _ _ _ _), Below.refl _ _⟩
        case round =>
          obtain ⟨j, acc, hj, rfl, hj2, hacc, hr, hbr⟩ := hrel
          by_cases hlt : j < s.size
          · have hlt2 : j + 1 < s.size := by have := hj2.out; have := HE.out; omega
            obtain ⟨x, hx⟩ : ∃ x : UInt8, x = s.data.toList.getD j 0 := ⟨_, rfl⟩
            obtain ⟨y, hy⟩ : ∃ y : UInt8, y = s.data.toList.getD (j + 1) 0 := ⟨_, rfl⟩
            have ix := run_str_at (P := Tryd.prog) s 9 Tryd.underlying9 .i64 (j : Int) j rfl hlt x hx
            have iy := run_str_at (P := Tryd.prog) s 9 Tryd.underlying9 .i64 ((j : Int) + 1) (j + 1) rfl hlt2 y hy
            have HX := Lib.hid hx
            have HY := Lib.hid hy
            clear hx hy
            have hx8 : x.toNat < 256 := x.toNat_lt
            have hy8 : y.toNat < 256 := y.toNat_lt
            have hxr := nib_range (x.toNat : Int)
            have hyr := nib_range (y.toNat : Int)
            by_cases hbad : nib (x.toNat : Int) < 0 ∨ nib (y.toNat : Int) < 0
            · have hstop := unhex_stopj _ j hj2.out (by rw [HL.out]; exact hlt2) (by rw [← HX.out, ← HY.out]; exact pairBad_true hbad)
              have HT := Lib.hid (parseV_bad H1.out H3.out hstop)
              clear hstop hacc hr HX HY
              by_cases hxa : nib (x.toNat : Int) < 0
              all_goals
                go_wp2_with (go_at_call 27; refine (keeps (rdigit_any _ _ (by omega) (by omega))).mono ?_; rintro e w' ⟨rfl, rfl⟩)
                go_ret2
                exact ⟨by rw [HT.out]; rfl, hbr⟩
            · have hxa : 0 ≤ nib (x.toNat : Int) := by omega
              have hya : 0 ≤ nib (y.toNat : Int) := by omega
              clear hbad
              have hp8 : (pairByte x y).toNat < 256 := (pairByte x y).toNat_lt
              have hor : 16 * nib (x.toNat : Int) + nib (y.toNat : Int) = ((pairByte x y).toNat : Int) := (pairByte_toNat (by omega) (by omega) (by omega) (by omega)).symm
              have hst : Hid (unhex (s.data.toList.take (j + 2)) = some (acc ++ [pairByte x y])) := by
                have := unhex_stepj _ acc j hj2.out (by rw [HL.out]; exact hlt2) hacc.out (by rw [← HX.out, ← HY.out]; exact pairBad_false (by omega) (by omega))
                rw [← HX.out, ← HY.out] at this
                exact this
              have hal : acc.length ≤ s.size := by
                have := unhex_length _ _ hacc.out
                rw [List.length_take] at this
                have := HL.out
                omega
              clear HX HY hacc
              go_wp2_with (first | (go_at_call 27; refine (keeps (rdigit_any _ _ (by omega) (by omega))).mono ?_; rintro e w' ⟨rfl, rfl⟩) | (at_builtin; refine wpList_append_lies _ rfl (.tmp 40) (.tmp 46) 35 rfl w.heap.size 5 i0 (.int .u8 0) 1 1 Tryd.underlying35 hi hz0 hz1 hz2 rfl (by decide) u4 acc.length (Lib.byteCells acc) rfl (World.ownsRow.alloc hr.out _) ⟨wr.heap.size, 0, none⟩ 1 1 [.int .u8 ((pairByte x y).toNat : Int)] rfl rfl (World.news_of_block (cs := #[.int .u8 ((pairByte x y).toNat : Int)]) (t := 5) (fr := (0, 0)) (heap_alloc_new wr _)) (fun u hu => by simp at hu; subst hu; rfl) (by decide) (by unfold maxLen; omega) (by omega) (by have := hbr.size; simp; omega) _ rfl ?_))
              intro g cap w2 hown2 hgrow2 hgc hlt3
              go_wp2_with fail
              go_roundw
              case rel => exact ⟨j + 2, acc ++ [pairByte x y], by omega, by go_num, by have := hj2.out; show (j + 2) % 2 = 0; omega, hst, Lib.hid (owns_snoc hown2), (hbr.alloc hbr.size _).grown hgrow2 (by have := hbr.size; simp; omega) (fun i hi => (hr.out.lt i hi).1)⟩
              case measure => simp [intOf]; omega
          · have hjs : s.data.toList.take j = s.data.toList := List.take_of_length_le (by have := HL.out; omega)
            have ha2 := hacc.out
            rw [hjs] at ha2
            have hbt := BytesAt.of_owns hr.out
            have hcv := hbt.convert (P := Tryd.prog) 35 9 5 Tryd.underlying35 Tryd.underlying5 Tryd.underlying9
            obtain ⟨p, c, hv, hc, _⟩ := hbt
            subst hv
            by_cases h7 : 512 < acc.length
            · have HT := Lib.hid (parseV_large H1.out H3.out ha2 h7)
              clear hjs ha2 hacc hr
              go_wp2_with fail
              go_ret2
              exact ⟨by rw [HT.out]; rfl, hbr⟩
            · have HT := Lib.hid (parseV_ok H1.out H3.out ha2 h7)
              clear hjs ha2 hacc hr
              go_wp2_with fail
              go_ret2
              exact ⟨by rw [HT.out]; rfl, hbr⟩
end Go.Proofs.YtmkeiphhenhhbaaDoor
