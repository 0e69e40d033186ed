/-
  The walk of CodecBytes.
  Conditions: the library's table lies in the world.
-/
import Derived.Test.YtmfdfpebbnagfaaDoorWalks01e
set_option linter.unusedVariables false
namespace Go.Proofs.YtmfdfpebbnagfaaDoor
open Go Go.RowKit

theorem leL_getD (n k i : Nat) (h : i < k) : (leL n k).getD i 0 = UInt8.ofNat (n / 256 ^ i % 256) := by
  unfold leL
  rw [List.getD, List.getElem?_map, List.getElem?_range h]
  rfl
theorem fits_shift (u x : Nat) (h : isW (x : Int) = true) : (((u : Int) / 2 ^ (8 * x)) == 0) = fitsV u (x : Int) := by
  rw [two_pow8_int]
  exact fits_shr u x (256 ^ x) rfl h

set_option maxHeartbeats 4000000 in
theorem walkCodecBytes (n : Int) (hn : (Lit.int .u64 n).wf = true) (w : World) (ht : Tab w) :
    Calls Tryd.prog 6 #[.int .u64 n] w fun e w' => e = .returned (.bool true) ∧ Below w.heap.size w w' := by
  have hn2 : 0 ≤ n ∧ n < 18446744073709551616 := by have e1 : IntKind.u64.min = 0 := rfl; have e2 : IntKind.u64.max = 18446744073709551615 := rfl; simp [Lit.wf, e1, e2] at hn; omega
  obtain ⟨u, rfl⟩ : ∃ u : Nat, n = (u : Int) := ⟨n.toNat, by omega⟩
  have HU : Hid (u < 256 ^ 8) := by show u < 256 ^ 8; have : (256 : Nat) ^ 8 = 18446744073709551616 := by decide
                                    omega
  have HT := Lib.hid ht
  clear ht hn hn2
  go_enter Tryd.func6, Tryd.ntmps6
  go_wp2_with fail
  refine (lwidths_any _).mono ?_
  rintro e w1 ⟨rfl, rfl⟩
  have HW := Lib.hid (widthsAt_new w)
  have c1 := below_widths w
  go_wp2_with fail
  go_loopw [12] (fun vi wr => ∃ k : Nat, k ≤ 4 ∧ vi = .int .i64 k ∧ Hid (WidthsAt wr w.heap.size) ∧ Below w.heap.size w wr) (fun vi _ => 4 - (intOf vi).toNat)
  case atStart => exact ⟨0, Nat.zero_le _, rfl, HW, c1⟩
  case round =>
    clear HW c1
    obtain ⟨k, hk, rfl, hw, c1⟩ := hrel
    by_cases hlt : k < 4
    · have hx8 := wN_le k
      have HX := Lib.hid (wN_is k)
      have hcell := hw.out k hlt
      generalize wN k = x at *
      have hsh := fits_shift u x HX.out
      have t8 : (((x : Int) == 8) = true ∧ x = 8 ∧ fitsV u (x : Int) = true) ∨ (((x : Int) == 8) = false ∧ x < 8) := by
        by_cases h : x = 8
        · subst h
          exact Or.inl ⟨rfl, rfl, fits_wide u rfl HU.out⟩
        · exact Or.inr ⟨by rw [beq_eq_false_iff_ne]; omega, by omega⟩
      rcases hF : fitsV u (x : Int) with _ | _
      · have HA : Hid (appV [] u (x : Int) = ([], 16)) := appV_over HX.out hF
        have HF := Lib.hid hF
        rw [hF] at hsh
        rw [hF] at t8
        obtain ⟨t8, hx7⟩ : ((x : Int) == 8) = false ∧ x < 8 := by
          rcases t8 with ⟨_, _, h⟩ | h
          · cases h
          · exact h
        clear hF
        go_wp2_with fail
        refine (append_is _ [] [] u _ _ 16 _ rfl (BytesAt.nil _ _ _) (by decide) HU.out HA.out).mono ?_
        rintro e w2 ⟨v1, rfl, X1, b1⟩
        have hw2 := Lib.hid (hw.out.below b1)
        have c2 := c1.trans (b1.mono c1.size); clear hw c1 b1 hcell
        obtain ⟨p, c, rfl, hc, hp⟩ := X1
        clear hp hc
        go_wp2_with fail
        refine (fits_is u _ _ false _ rfl HU.out HF.out).mono ?_
        rintro e w3 ⟨rfl, b1⟩
        have hw3 := Lib.hid (hw2.out.below b1)
        have c1 := c2.trans (b1.mono c2.size); clear hw2 c2 b1
        go_wp2_with fail
        go_roundw
        case rel => exact ⟨k + 1, by omega, by go_num, hw3, c1⟩
        case measure => simp [intOf]; omega
      · have HA : Hid (appV [] u (x : Int) = (leL u x, 0)) := appV_ok HX.out hF
        have HF := Lib.hid hF
        rw [hF] at hsh
        have HL := Lib.hid (leL_length u x)
        have t9 : ((x : Int) != (x : Int)) = false := by simp
        clear hF
        have t7 : ((x : Int) == 8) = true ∨ ((x : Int) == 8) = false := by rcases t8 with ⟨h, _⟩ | ⟨h, _⟩ <;> simp [h]
        clear t8
        go_wp2_with fail
        refine (append_is _ [] (leL u x) u _ _ 0 _ rfl (BytesAt.nil _ _ _) (by decide) HU.out HA.out).mono ?_
        rintro e w2 ⟨v1, rfl, X1, b1⟩
        have hw2 := Lib.hid (hw.out.below b1)
        have c2 := c1.trans (b1.mono c1.size); clear hw c1 b1 hcell
        obtain ⟨p, c, rfl, hc, hp⟩ := X1
        obtain ⟨b, o, rfl, hcells⟩ := hp (by rw [HL.out]; omega)
        rw [HL.out] at hcells
        have HC := Lib.hid hcells
        clear hp hcells
        rw [HL.out]
        have hc2 : x ≤ c := by have := HL.out; omega
        clear hc
        rcases t7 with t7 | t7
        all_goals
          go_wp2_with fail
          refine (fits_is u _ _ true _ rfl HU.out HF.out).mono ?_
          rintro e w3 ⟨rfl, b1⟩
          have hw3 := Lib.hid (hw2.out.below b1)
          have HC3 : Hid (∀ i, i < x → w3.cell? ⟨b, o + i, none⟩ = some (.int .u8 (((leL u x).getD i 0).toNat : Int))) := fun i hi => by
            rw [b1.cell (p := ⟨b, o + i, none⟩) (World.block_lt_of_cell? w2 _ (HC.out i hi)), HC.out i hi]
          have c1 := c2.trans (b1.mono c2.size); clear hw2 c2 b1 HC
          go_wp2_with fail
          obtain ⟨wo, rfl⟩ : ∃ wo : World, wo = w3 := ⟨_, rfl⟩
          go_loop [57] (fun vi => ∃ i : Nat, i ≤ x ∧ vi = .int .i64 i) (fun vi => x - (intOf vi).toNat)
          case atStart => exact ⟨0, Nat.zero_le _, rfl⟩
          case round =>
            obtain ⟨i, hi, rfl⟩ := hrel
            by_cases hix : i < x
            · have hce := HC3.out i hix
              have hby := byte_shift u i
              rw [← leL_getD u x i hix] at hby
              generalize (leL u x).getD i 0 = y at *
              have hne : ((y.toNat : Int) != ((y.toNat : Int))) = false := by simp
              have hy8 : y.toNat < 256 := y.toNat_lt
              go_wp2_with fail
              go_round
              case rel => exact ⟨i + 1, by omega, by go_num⟩
              case measure => simp [intOf]; omega
            · obtain rfl : i = x := by omega
              go_wp2_with fail
              go_roundw
              case rel => exact ⟨k + 1, by omega, by go_num, hw3, c1⟩
              case measure => simp [intOf]; omega
    · obtain rfl : k = 4 := by omega
      go_wp2_with fail
      go_wp2_with fail
      refine (works_any _ (HT.out.below c1)).mono ?_
      rintro e w101 ⟨rfl, b1⟩
      have c2 := c1.trans (b1.mono c1.size); clear c1 b1
      have c1 := c2; clear c2
      go_wp2_with fail
      go_ret
      exact ⟨rfl, c1⟩
end Go.Proofs.YtmfdfpebbnagfaaDoor
