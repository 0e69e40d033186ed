/-
  What the reference of layer 1 appends and decodes.
  Conditions: numbers below 2^64; at most 2^45 bytes.
-/
import Derived.Test.YtmfdfpebbnagfaaDoorRef01
import Derived.Test.YtmfdfpebbnagfaaDoorBytes
import Derived.Test.YtmfdfpebbnagfaaDoorHex
set_option linter.unusedVariables false
namespace Go.Proofs.YtmfdfpebbnagfaaDoor
open Go Go.RowKit

set_option maxHeartbeats 1000000 in
theorem rappend_any (v : Value) (l : List UInt8) (n : Nat) (wd : Int) (w : World) (hv : BytesAt w v l) (hl : l.length ≤ 35184372088832) (hn : n < 256 ^ 8) :
    Calls Tryd.prog 14 #[v, .int .u64 (n : Int), .int .i64 wd] w fun e w' => ∃ v1, e = .returned (.tuple #[v1, .int .i64 (appV l n wd).2]) ∧ BytesAt w' v1 (appV l n wd).1 ∧ Below w.heap.size w w' := by
  obtain ⟨i0, hi, hz0, hz1, hz2⟩ := info_parts infoU8
  have HN := Lib.hid hn
  rcases isW_cases wd with ⟨h1, h2⟩ | ⟨h1, h2⟩
  · have HA := Lib.hid (appV_arg (l := l) (n := n) h1)
    have H1 := Lib.hid h1; clear h1 h2 hn
    go_enter Tryd.func14, Tryd.ntmps14
    go_wp2_with fail
    refine (keeps (rwidth_any wd _)).mono ?_
    rw [H1.out]
    rintro e w1 ⟨rfl, rfl⟩
    go_wp2_with fail
    go_ret2
    exact ⟨_, by rw [HA.out]; rfl, by rw [HA.out]; exact BytesAt.nil _ _ _, Below.refl _ _⟩
  · by_cases hf : fitsV n wd = false
    · have HA := Lib.hid (appV_over (l := l) h1 hf)
      have H1 := Lib.hid h1; clear h1 h2
      have HF := Lib.hid hf; clear hf hn
      go_enter Tryd.func14, Tryd.ntmps14
      go_wp2_with fail
      refine (keeps (rwidth_any wd _)).mono ?_
      rw [H1.out]
      rintro e w1 ⟨rfl, rfl⟩
      go_wp2_with fail
      refine (rfits_any n wd _ HN.out).mono ?_
      rw [HF.out]
      rintro e w1 ⟨rfl, b1⟩
      go_wp2_with fail
      go_ret2
      exact ⟨_, by rw [HA.out]; rfl, by rw [HA.out]; exact BytesAt.nil _ _ _, b1⟩
    · have hf : fitsV n wd = true := by simpa using hf
      obtain ⟨k, rfl⟩ : ∃ k : Nat, wd = (k : Int) := ⟨wd.toNat, by omega⟩
      have hk8 : k ≤ 8 := by omega
      have HA := Lib.hid (appV_ok (l := l) h1 hf)
      have H1 := Lib.hid h1; clear h1 h2
      have HF := Lib.hid hf; clear hf hn
      go_enter Tryd.func14, Tryd.ntmps14
      go_wp2_with fail
      refine (keeps (rwidth_any k _)).mono ?_
      rw [H1.out]
      rintro e w1 ⟨rfl, rfl⟩
      go_wp2_with fail
      refine (rfits_any n k _ HN.out).mono ?_
      rw [HF.out]
      rintro e w1 ⟨rfl, b1⟩
      go_wp2_with (at_builtin; refine wpList_append_bytes _ rfl (.tmp 17) (.tmp 18) 22 rfl w.heap.size 5 i0 (.int .u8 0) Tryd.underlying22 hi hz0 hz1 hz2 rfl _ 0 [] rfl (owns_built w1 w.heap.size b1.size _) v l rfl (hv.below (b1.alloc b1.size _)) (by omega) (by have := b1.size; simp; omega) ?_)
      intro v' w2 hown hgrow
      have HR : Hid (w2.ownsRow w.heap.size 5 1 v' (l ++ leL n 0).length (Lib.byteCells (l ++ leL n 0))) := by
        show World.ownsRow _ _ _ _ _ _ _
        simpa [leL_zero] using hown
      have c2 : Below w.heap.size w w2 := (b1.alloc b1.size _).grown hgrow (by have := b1.size; simp; omega) (fun g hg => by have := b1.size; simp [Value.ownBlock] at hg; omega)
      clear b1 hown hgrow hv
      go_wp2_with fail
      go_loopw [1, 8, 9] (fun vn vo vi wr => ∃ i : Nat, i ≤ k ∧ vi = .int .i64 i ∧ vn = .int .u64 ((n / 256 ^ i : Nat) : Int) ∧ Hid (wr.ownsRow w.heap.size 5 1 vo (l ++ leL n i).length (Lib.byteCells (l ++ leL n i))) ∧ Below w.heap.size w wr) (fun _ _ vi _ => k - (intOf vi).toNat)
      case atStart => exact ⟨0, Nat.zero_le _, rfl, by simp, HR, c2⟩
      case round =>
        clear HR c2
        obtain ⟨i, hi', rfl, rfl, hr, hbr⟩ := hrel
        obtain ⟨m, hm⟩ : ∃ m, n / 256 ^ i = m := ⟨_, rfl⟩
        by_cases hlt : i < k
        · have HM : Hid (n / 256 ^ (i + 1) = m / 256) := by show _ = _; rw [Nat.pow_succ, ← Nat.div_div_eq_div_mul, hm]
          have hm8 : m < 256 ^ 8 := by have := HN.out; have : n / 256 ^ i ≤ n := Nat.div_le_self _ _; omega
          have hwr := wrap_u64 (x := (m : Int) / 256) (m := m / 256) (by omega) (by omega)
          have hw2 := wrap_u64 (x := (m : Int) % 256) (m := m % 256) (by omega) (by omega)
          have hw3 : IntKind.u8.wrap ((m : Int) % 256) = (m : Int) % 256 := by rw [IntKind.wrap_u8]; omega
          have hw4 : (m : Int).tmod 256 = (m : Int) % 256 := Int.tmod_eq_emod_of_nonneg (by omega)
          have HS := Lib.hid (snoc_leL l n i m hm)
          have HB := Lib.hid (byte_toNat m)
          have hln : (l ++ leL n i).length = l.length + i := by rw [List.length_append, leL_length]
          rw [hm]
          clear hm hm8
          go_wp2_with (at_builtin; refine wpList_append_bytes _ rfl (.tmp 25) (.tmp 29) 22 rfl w.heap.size 5 i0 (.int .u8 0) Tryd.underlying22 hi hz0 hz1 hz2 rfl u8 _ _ rfl (hr.out.alloc _) _ [UInt8.ofNat (m % 256)] rfl (bytesAt_one wr _ _ HB.out _) (by rw [hln, List.length_singleton]; omega) (by have := hbr.size; simp; omega) ?_)
          intro v' w3 hown hgrow
          have c3 : Below w.heap.size w w3 := (hbr.alloc hbr.size _).grown hgrow (by have := hbr.size; simp; omega) (fun j hj => (hr.out.lt j hj).1)
          have HR : Hid (w3.ownsRow w.heap.size 5 1 v' (l ++ leL n (i + 1)).length (Lib.byteCells (l ++ leL n (i + 1)))) := by
            show World.ownsRow _ _ _ _ _ _ _
            rw [← HS.out]
            rw [List.length_append, Lib.byteCells_append, List.length_singleton, hln]
            exact hown
          clear hown hgrow
          go_wp2_with fail
          go_roundw
          case rel => exact ⟨i + 1, by omega, by go_num, by rw [HM.out]; go_num, HR, c3⟩
          case measure => simp [intOf]; omega
        · obtain rfl : i = k := by omega
          clear hm
          go_wp2_with fail
          go_ret2
          exact ⟨_, by rw [HA.out]; rfl, by rw [HA.out]; exact BytesAt.of_owns hr.out, hbr⟩
end Go.Proofs.YtmfdfpebbnagfaaDoor
