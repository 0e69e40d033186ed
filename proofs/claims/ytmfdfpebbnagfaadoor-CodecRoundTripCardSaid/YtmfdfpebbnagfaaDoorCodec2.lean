/-
  What the library's slices.Clone at []byte and codec's Append and Uint compute.
  Conditions: at most 2^45 bytes; numbers below 2^64.
-/
import Derived.Test.YtmfdfpebbnagfaaDoorCodec1
import Derived.Lib.BufferMore
import Derived.Lib.EndianBits
set_option linter.unusedVariables false
namespace Go.Proofs.YtmfdfpebbnagfaaDoor
open Go Go.RowKit

/-- 'n | y << 8i' over disjoint bits. -/
theorem or_step (n i y : Nat) (h : n < 256 ^ i) (h2 : n + 256 ^ i * y < 256 ^ 8) : bits .or .u64 (n : Int) (IntKind.u64.wrap ((y : Int) * 2 ^ (8 * i))) = ((n + 256 ^ i * y : Nat) : Int) := by
  have e64 : (256 : Nat) ^ 8 = 2 ^ 64 := by decide
  have hc : y * 256 ^ i = 256 ^ i * y := Nat.mul_comm _ _
  rw [wrap_u64 (m := y * 256 ^ i) (by rw [two_pow8_int]; rfl) (by omega), two_pow8_int]
  have hb := (bits_nat .u64 64 (by decide) wraps_u64 n (y * 256 ^ i) (by omega) (by omega)).2
  rw [or_next n i y h] at hb
  exact hb

theorem clone_any (v : Value) (l : List UInt8) (w : World) (hv : BytesAt w v l) (hl : l.length ≤ 35184372088832) :
    Calls Tryd.prog 33 #[v] w fun e w' => ∃ v1, e = .returned v1 ∧ w'.ownsRow w.heap.size 5 1 v1 l.length (Lib.byteCells l) ∧ Below w.heap.size w w' := by
  obtain ⟨i0, hi, hz0, hz1, hz2⟩ := info_parts infoU8
  have hv2 := hv
  obtain ⟨p, c, rfl, hc, hp⟩ := hv
  cases p with
  | none =>
    have h0 : l.length = 0 := by
      rcases Nat.eq_zero_or_pos l.length with h | h
      · exact h
      · obtain ⟨b, o, hbo, _⟩ := hp h
        cases hbo
    obtain rfl := List.eq_nil_of_length_eq_zero h0
    clear hp h0 hv2
    have he := Lib.run_eql_slice_nil_nil (P := Tryd.prog) w 0 c Tryd.underlying22
    go_enter Tryd.func33, Tryd.ntmps33
    go_wp2_with fail
    go_ret
    exact ⟨_, rfl, World.ownsRow_nil _ _ _ _, Below.refl _ _⟩
  | some a =>
    clear hp
    have he := Lib.run_eql_slice_some_nil (P := Tryd.prog) w a l.length c Tryd.underlying22
    go_enter Tryd.func33, Tryd.ntmps33
    have b1 := Below.refl w.heap.size w
    go_wp2_with (at_builtin; refine wpList_append_bytes _ rfl (.tmp 5) (.tmp 6) 22 rfl w.heap.size 5 i0 (.int .u8 0) Tryd.underlying22 hi hz0 hz1 hz2 rfl _ 0 [] rfl (owns_built w w.heap.size b1.size _) _ l rfl (hv2.below (b1.alloc b1.size _)) (by omega) (by simp) ?_)
    intro v' w2 hown hgrow
    have HR : Hid (w2.ownsRow w.heap.size 5 1 v' l.length (Lib.byteCells l)) := by
      show World.ownsRow _ _ _ _ _ _ _
      simpa using hown
    have c2 : Below w.heap.size w w2 := (b1.alloc b1.size _).grown hgrow (by simp) (fun g hg => by simp [Value.ownBlock] at hg; omega)
    clear b1 hown hgrow
    go_wp2_with fail
    go_ret
    exact ⟨_, rfl, HR.out, c2⟩

set_option maxHeartbeats 1000000 in
theorem append_any (v : Value) (l : List UInt8) (n : Nat) (wd : Int) (w : World) (hv : BytesAt w v l) (hl : l.length ≤ 35184372088832) (hn : n < 256 ^ 8) :
    Calls Tryd.prog 13 #[v, .int .u64 (n : Int), .int .i64 wd] w fun e w' => ∃ v1, e = .returned (.tuple #[v1, .int .i64 (appV l n wd).2]) ∧ BytesAt w' v1 (appV l n wd).1 ∧ Below w.heap.size w w' := by
  obtain ⟨i0, hi, hz0, hz1, hz2⟩ := info_parts infoU8
  have HN := Lib.hid hn
  rcases isW_cases wd with ⟨h1, h2⟩ | ⟨h1, h2⟩
  · have HA := Lib.hid (appV_arg (l := l) (n := n) h1)
    have H1 := Lib.hid h1; clear h1 h2 hn
    go_enter Tryd.func13, Tryd.ntmps13
    go_wp2_with fail
    refine (widths_any w).mono ?_
    rintro e w1 ⟨rfl, rfl⟩
    go_wp2_with fail
    refine (contains_width w wd).mono ?_
    rw [H1.out]
    rintro e w1 ⟨rfl, rfl⟩
    go_wp2_with fail
    go_ret2
    exact ⟨_, by rw [HA.out]; rfl, by rw [HA.out]; exact BytesAt.nil _ _ _, below_widths w⟩
  · by_cases hf : fitsV n wd = false
    · have HA := Lib.hid (appV_over (l := l) h1 hf)
      have H1 := Lib.hid h1; clear h1 h2
      have HF := Lib.hid hf; clear hf hn
      go_enter Tryd.func13, Tryd.ntmps13
      go_wp2_with fail
      refine (widths_any w).mono ?_
      rintro e w1 ⟨rfl, rfl⟩
      go_wp2_with fail
      refine (contains_width w wd).mono ?_
      rw [H1.out]
      rintro e w1 ⟨rfl, rfl⟩
      have c1 := below_widths w
      go_wp2_with fail
      refine (fits_any n wd _ HN.out).mono ?_
      rw [HF.out]
      rintro e w1 ⟨rfl, b1⟩
      have c2 := c1.trans (b1.mono c1.size); clear c1 b1
      go_wp2_with fail
      go_ret2
      exact ⟨_, by rw [HA.out]; rfl, by rw [HA.out]; exact BytesAt.nil _ _ _, c2⟩
    · have hf : fitsV n wd = true := by simpa using hf
      obtain ⟨k, rfl⟩ : ∃ k : Nat, wd = (k : Int) := ⟨wd.toNat, by omega⟩
      have hk8 : k ≤ 8 := by omega
      have HA := Lib.hid (appV_ok (l := l) h1 hf)
      have H1 := Lib.hid h1; clear h1 h2
      have HF := Lib.hid hf; clear hf hn
      go_enter Tryd.func13, Tryd.ntmps13
      go_wp2_with fail
      refine (widths_any w).mono ?_
      rintro e w1 ⟨rfl, rfl⟩
      go_wp2_with fail
      refine (contains_width w k).mono ?_
      rw [H1.out]
      rintro e w1 ⟨rfl, rfl⟩
      have c1 := below_widths w
      go_wp2_with fail
      refine (fits_any n k _ HN.out).mono ?_
      rw [HF.out]
      rintro e w1 ⟨rfl, b1⟩
      have c2 := c1.trans (b1.mono c1.size); clear c1 b1
      go_wp2_with fail
      refine (clone_any v l _ (hv.below c2) hl).mono ?_
      rintro e w2 ⟨v1, rfl, hown, b1⟩
      have HR : Hid (w2.ownsRow w.heap.size 5 1 v1 (l ++ leL n 0).length (Lib.byteCells (l ++ leL n 0))) := by
        show World.ownsRow _ _ _ _ _ _ _
        rw [leL_zero, List.append_nil]
        exact owns_mono hown c2.size
      have c3 := c2.trans (b1.mono c2.size); clear c2 b1 hown hv
      go_wp2_with fail
      go_loopw [8, 23] (fun vo vi wr => ∃ i : Nat, i ≤ k ∧ vi = .int .i64 i ∧ Hid (wr.ownsRow w.heap.size 5 1 vo (l ++ leL n i).length (Lib.byteCells (l ++ leL n i))) ∧ Below w.heap.size w wr) (fun _ vi _ => k - (intOf vi).toNat)
      case atStart => exact ⟨0, Nat.zero_le _, rfl, HR, c3⟩
      case round =>
        clear HR c3
        obtain ⟨i, hi', rfl, hr, hbr⟩ := hrel
        by_cases hlt : i < k
        · have HS := Lib.hid (snoc_leL l n i _ rfl)
          have HB := Lib.hid (byte_shift n i)
          have hln : (l ++ leL n i).length = l.length + i := by rw [List.length_append, leL_length]
          go_wp2_with (at_builtin; refine wpList_append_bytes _ rfl (.tmp 26) (.tmp 32) 22 rfl w.heap.size 5 i0 (.int .u8 0) Tryd.underlying22 hi hz0 hz1 hz2 rfl u8 _ _ rfl (hr.out.alloc _) _ [UInt8.ofNat (n / 256 ^ i % 256)] rfl (bytesAt_one wr _ _ HB.out _) (by rw [hln, List.length_singleton]; omega) (by have := hbr.size; simp; omega) ?_)
          intro v' w3 hown hgrow
          have c3 : Below w.heap.size w w3 := (hbr.alloc hbr.size _).grown hgrow (by have := hbr.size; simp; omega) (fun j hj => (hr.out.lt j hj).1)
          have HR : Hid (w3.ownsRow w.heap.size 5 1 v' (l ++ leL n (i + 1)).length (Lib.byteCells (l ++ leL n (i + 1)))) := by
            show World.ownsRow _ _ _ _ _ _ _
            rw [← HS.out]
            rw [List.length_append, Lib.byteCells_append, List.length_singleton, hln]
            exact hown
          clear hown hgrow
          go_wp2_with fail
          go_roundw
          case rel => exact ⟨i + 1, by omega, by go_num, HR, c3⟩
          case measure => simp [intOf]; omega
        · obtain rfl : i = k := by omega
          go_wp2_with fail
          go_ret2
          exact ⟨_, by rw [HA.out]; rfl, by rw [HA.out]; exact BytesAt.of_owns hr.out, hbr⟩

set_option maxHeartbeats 1000000 in
theorem uint_any (v : Value) (l : List UInt8) (at_ wd : Int) (w : World) (hv : BytesAt w v l) (hl : l.length ≤ 35184372088832) :
    Calls Tryd.prog 15 #[v, .int .i64 at_, .int .i64 wd] w fun e w' => e = .returned (.tuple #[.int .u64 ((uintV l at_ wd).1 : Int), .int .i64 (uintV l at_ wd).2]) ∧ Below w.heap.size w w' := by
  rcases isW_cases wd with ⟨h1, h2⟩ | ⟨h1, h2⟩
  · have HA := Lib.hid (uintV_arg (l := l) (a := at_) h1)
    have H1 := Lib.hid h1; clear h1 h2
    go_enter Tryd.func15, Tryd.ntmps15
    go_wp2_with fail
    refine (widths_any w).mono ?_
    rintro e w1 ⟨rfl, rfl⟩
    go_wp2_with fail
    refine (contains_width w wd).mono ?_
    rw [H1.out]
    rintro e w1 ⟨rfl, rfl⟩
    go_wp2_with fail
    go_ret2
    exact ⟨by rw [HA.out]; rfl, below_widths w⟩
  · by_cases h3 : at_ < 0
    · have HA := Lib.hid (uintV_range (l := l) h1 h3)
      have H1 := Lib.hid h1; clear h1 h2
      go_enter Tryd.func15, Tryd.ntmps15
      go_wp2_with fail
      refine (widths_any w).mono ?_
      rintro e w1 ⟨rfl, rfl⟩
      go_wp2_with fail
      refine (contains_width w wd).mono ?_
      rw [H1.out]
      rintro e w1 ⟨rfl, rfl⟩
      go_wp2_with fail
      go_ret2
      exact ⟨by rw [HA.out]; rfl, below_widths w⟩
    · obtain ⟨k, rfl⟩ : ∃ k : Nat, wd = (k : Int) := ⟨wd.toNat, by omega⟩
      obtain ⟨a, rfl⟩ : ∃ a : Nat, at_ = (a : Int) := ⟨at_.toNat, by omega⟩
      have hk8 : k ≤ 8 := by omega
      obtain ⟨p, c, rfl, hc, hp⟩ := hv
      by_cases h4 : (l.length : Int) - (k : Int) < (a : Int)
      · have HA := Lib.hid (uintV_torn h1 h3 h4)
        have h6 : l.length < a + k := by omega
        have H1 := Lib.hid h1; clear h1 h2 hp h3 h4
        go_enter Tryd.func15, Tryd.ntmps15
        go_wp2_with fail
        refine (widths_any w).mono ?_
        rintro e w1 ⟨rfl, rfl⟩
        go_wp2_with fail
        refine (contains_width w k).mono ?_
        rw [H1.out]
        rintro e w1 ⟨rfl, rfl⟩
        go_wp2_with fail
        go_ret2
        exact ⟨by rw [HA.out]; rfl, below_widths w⟩
      · have h5 : a + k ≤ l.length := by omega
        have HA := Lib.hid (uintV_ok h1 h5)
        obtain ⟨b, o, rfl, hcell⟩ := hp (by omega)
        have HC := Lib.hid hcell
        have HL := Lib.hid (part_length l a k h5)
        have H1 := Lib.hid h1; clear h1 h2 hp hcell h3 h4
        go_enter Tryd.func15, Tryd.ntmps15
        go_wp2_with fail
        refine (widths_any w).mono ?_
        rintro e w1 ⟨rfl, rfl⟩
        go_wp2_with fail
        refine (contains_width w k).mono ?_
        rw [H1.out]
        rintro e w1 ⟨rfl, rfl⟩
        have b1 := below_widths w
        go_wp2_with fail
        go_loopw [8, 26] (fun vn vi wr => ∃ i : Nat, i ≤ k ∧ vi = .int .i64 i ∧ vn = .int .u64 ((unle (((l.drop a).take k).take i) : Nat) : Int) ∧ Below w.heap.size w wr) (fun _ vi _ => k - (intOf vi).toNat)
        case atStart => exact ⟨0, Nat.zero_le _, rfl, rfl, b1⟩
        case round =>
          clear b1
          obtain ⟨i, hi, rfl, rfl, hbr⟩ := hrel
          obtain ⟨n, hn⟩ : ∃ n, unle (((l.drop a).take k).take i) = n := ⟨_, rfl⟩
          by_cases hlt : i < k
          · obtain ⟨y, hy⟩ : ∃ y : UInt8, l.getD (a + i) 0 = y := ⟨_, rfl⟩
            have hck : wr.cell? ⟨b, o + (a + i), none⟩ = some (.int .u8 (y.toNat : Int)) := by
              rw [hbr.cell (p := ⟨b, o + (a + i), none⟩) (World.block_lt_of_cell? w _ (HC.out (a + i) (by omega))), HC.out (a + i) (by omega), hy]
            have hu := unle_take ((l.drop a).take k) i (by rw [HL.out]; omega)
            rw [part_getD l a k i (by omega), hy, hn] at hu
            have hsm := unle_take_lt ((l.drop a).take k) i
            rw [hn] at hsm
            have hsm2 := unle_take_lt ((l.drop a).take k) (i + 1)
            rw [hu] at hsm2
            have hp8 : 256 ^ (i + 1) ≤ 256 ^ 8 := Nat.pow_le_pow_right (by decide) (by omega)
            have hor := or_step n i y.toNat hsm (by omega)
            have HU := Lib.hid hu
            have hy8 : y.toNat < 256 := y.toNat_lt
            have w3 := wrap_u64 (x := (y.toNat : Int)) (m := y.toNat) rfl (by omega)
            rw [hn]
            clear hn hy hu
            go_wp2_with fail
            go_roundw
            case rel => exact ⟨i + 1, by omega, by go_num, by rw [HU.out, Int.natCast_add, Int.natCast_mul, Int.natCast_pow]; rfl, hbr⟩
            case measure => simp [intOf]; omega
          · obtain rfl : i = k := by omega
            have hti : ((l.drop a).take i).take i = (l.drop a).take i := by rw [List.take_take, Nat.min_self]
            rw [hti] at hn
            have HA2 : Hid (uintV l (a : Int) (i : Int) = (n, 0)) := by show _ = _; rw [HA.out, hn]
            rw [hti, hn]
            clear hn HA hti
            go_wp2_with fail
            go_ret2
            exact ⟨by rw [HA2.out]; rfl, hbr⟩
end Go.Proofs.YtmfdfpebbnagfaaDoor
