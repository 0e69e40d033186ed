/-
  What the reference of layer 1 decodes.
  Conditions: at most 2^45 bytes.
-/
import Derived.Test.YtmfdfpebbnagfaaDoorRef01
set_option linter.unusedVariables false
namespace Go.Proofs.YtmfdfpebbnagfaaDoor
open Go Go.RowKit

set_option maxHeartbeats 1000000 in
theorem ruint_any (v : Value) (l : List UInt8) (at_ wd : Int) (w : World) (hv : BytesAt w v l) (hl : l.length ≤ 35184372088832) (hat : at_ < 9223372036854775808) :
    Calls Tryd.prog 16 #[v, .int .i64 at_, .int .i64 wd] w fun e w' => e = .returned (.tuple #[.int .u64 ((uintV l at_ wd).1 : Int), .int .i64 (uintV l at_ wd).2]) ∧ w' = w := by
  rcases isW_cases wd with ⟨h1, h2⟩ | ⟨h1, h2⟩
  · have HA := Lib.hid (uintV_arg (l := l) (a := at_) h1)
    have H1 := Lib.hid h1; clear h1 h2
    go_enter Tryd.func16, Tryd.ntmps16
    go_wp2_with fail
    refine (keeps (rwidth_any wd _)).mono ?_
    rw [H1.out]
    rintro e w1 ⟨rfl, rfl⟩
    go_wp2_with fail
    go_ret2
    exact ⟨by rw [HA.out]; rfl, rfl⟩
  · by_cases h3 : at_ < 0
    · have HA := Lib.hid (uintV_range (l := l) h1 h3)
      have H1 := Lib.hid h1; clear h1 h2
      go_enter Tryd.func16, Tryd.ntmps16
      go_wp2_with fail
      refine (keeps (rwidth_any wd _)).mono ?_
      rw [H1.out]
      rintro e w1 ⟨rfl, rfl⟩
      go_wp2_with fail
      go_ret2
      exact ⟨by rw [HA.out]; rfl, rfl⟩
    · obtain ⟨k, rfl⟩ : ∃ k : Nat, wd = (k : Int) := ⟨wd.toNat, by omega⟩
      obtain ⟨a, rfl⟩ : ∃ a : Nat, at_ = (a : Int) := ⟨at_.toNat, by omega⟩
      have hk8 : k ≤ 8 := by omega
      obtain ⟨p, c, rfl, hc, hp⟩ := hv
      by_cases h4 : (l.length : Int) - (k : Int) < (a : Int)
      · have HA := Lib.hid (uintV_torn h1 h3 h4)
        have h6 : l.length < a + k := by omega
        have H1 := Lib.hid h1; clear h1 h2 hp h3 h4 hat
        go_enter Tryd.func16, Tryd.ntmps16
        go_wp2_with fail
        refine (keeps (rwidth_any k _)).mono ?_
        rw [H1.out]
        rintro e w1 ⟨rfl, rfl⟩
        go_wp2_with fail
        go_ret2
        exact ⟨by rw [HA.out]; rfl, rfl⟩
      · have h5 : a + k ≤ l.length := by omega
        have HA := Lib.hid (uintV_ok h1 h5)
        obtain ⟨b, o, rfl, hcell⟩ := hp (by omega)
        have HC := Lib.hid hcell
        have HL := Lib.hid (part_length l a k h5)
        have H1 := Lib.hid h1; clear h1 h2 hp hcell h3 h4 hat
        go_enter Tryd.func16, Tryd.ntmps16
        go_wp2_with fail
        refine (keeps (rwidth_any k _)).mono ?_
        rw [H1.out]
        rintro e w1 ⟨rfl, rfl⟩
        go_wp2_with fail
        go_loopw [8, 9] (fun vn vi wr => ∃ (j : Nat) (x : Int), j ≤ k ∧ x = (j : Int) - 1 ∧ vi = .int .i64 x ∧ vn = .int .u64 ((unle (((l.drop a).take k).drop j) : Nat) : Int) ∧ wr = w) (fun _ vi _ => (intOf vi + 1).toNat)
        case atStart => exact ⟨k, _, Nat.le_refl _, rfl, rfl, by rw [List.drop_of_length_le (by rw [HL.out]; exact Nat.le_refl _)]; rfl, rfl⟩
        case round =>
          obtain ⟨j, x, hj, hx, rfl, rfl, rfl⟩ := hrel
          rcases j with _ | m
          · obtain rfl : x = -1 := by omega
            clear hx hj
            rw [List.drop_zero]
            obtain ⟨n, hn⟩ : ∃ n, unle ((l.drop a).take k) = n := ⟨_, rfl⟩
            have HA2 : Hid (uintV l (a : Int) (k : Int) = (n, 0)) := by show _ = _; rw [HA.out, hn]
            rw [hn]
            clear hn HA
            go_wp2_with fail
            go_ret2
            exact ⟨by rw [HA2.out]; rfl, rfl⟩
          · obtain rfl : x = (m : Int) := by omega
            clear hx
            obtain ⟨n, hn⟩ : ∃ n, unle (((l.drop a).take k).drop (m + 1)) = n := ⟨_, rfl⟩
            obtain ⟨y, hy⟩ : ∃ y : UInt8, l.getD (a + m) 0 = y := ⟨_, rfl⟩
            have hck : wr.cell? ⟨b, o + (a + m), none⟩ = some (.int .u8 (y.toNat : Int)) := by rw [HC.out (a + m) (by omega), hy]
            have hu := unle_drop ((l.drop a).take k) m (by rw [HL.out]; omega)
            rw [part_getD l a k m (by omega), hy, hn] at hu
            have hsm := unle_small ((l.drop a).take k) m (by rw [HL.out]; exact hk8)
            rw [hu] at hsm
            have HU : Hid (unle (((l.drop a).take k).drop m) = n * 256 + y.toNat) := by show _ = _; rw [hu]; omega
            have hy8 : y.toNat < 256 := y.toNat_lt
            have w1 := wrap_u64 (x := (n : Int) * 256) (m := n * 256) (by omega) (by omega)
            have w2 := wrap_u64 (x := (n : Int) * 256 + (y.toNat : Int)) (m := n * 256 + y.toNat) (by omega) (by omega)
            have w3 := wrap_u64 (x := (y.toNat : Int)) (m := y.toNat) rfl (by omega)
            rw [hn]
            clear hn hy hu hsm
            go_wp2_with fail
            go_roundw
            case rel => exact ⟨m, (m : Int) - 1, by omega, rfl, by go_num, by rw [HU.out]; go_num, trivial⟩
            case measure => simp [intOf]
end Go.Proofs.YtmfdfpebbnagfaaDoor
