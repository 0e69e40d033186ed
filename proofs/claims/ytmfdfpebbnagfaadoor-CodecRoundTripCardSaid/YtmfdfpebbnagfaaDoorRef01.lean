/-
  What the reference of layer 1 computes for widths and integers.
  Conditions: numbers below 2^64; at most 2^45 bytes.
-/
import Derived.Test.YtmfdfpebbnagfaaDoorProg
import Derived.Test.YtmfdfpebbnagfaaDoorPlain01
import Derived.WalkLawsBesides
import Derived.WalkSpells
import Derived.Deep.QuietTactic
import Derived.BigQuiet
import Derived.Outline
import Derived.Lib.Hide
set_option linter.unusedVariables false
namespace Go.Proofs.YtmfdfpebbnagfaaDoor
open Go Go.RowKit

theorem rwidth_any (x : Int) (w : World) :
    Calls Tryd.prog 34 #[.int .i64 x] w fun e w' => e = .returned (.bool (isW x)) ∧ w' = w := by
  rcases isW_cases x with ⟨h1, h2⟩ | ⟨h1, h2⟩
  · have H1 := Lib.hid h1; clear h1
    have a1 : (x == 1) = false := by rw [beq_eq_false_iff_ne]; omega
    have a2 : (x == 2) = false := by rw [beq_eq_false_iff_ne]; omega
    have a4 : (x == 4) = false := by rw [beq_eq_false_iff_ne]; omega
    have a8 : (x == 8) = false := by rw [beq_eq_false_iff_ne]; omega
    clear h2
    go_enter Tryd.func34, Tryd.ntmps34
    go_wp2_with fail
    go_ret
    exact ⟨by rw [H1.out]; rfl, rfl⟩
  · have H1 := Lib.hid h1; clear h1
    rcases h2 with rfl | rfl | rfl | rfl
    all_goals
      go_enter Tryd.func34, Tryd.ntmps34
      go_wp2_with fail
      go_ret
      exact ⟨by rw [H1.out]; rfl, rfl⟩

theorem wrap_u64 {x : Int} {m : Nat} (hx : x = (m : Int)) (h : m < 256 ^ 8) : IntKind.u64.wrap x = x := by
  subst hx
  have e : (256 : Nat) ^ 8 = 18446744073709551616 := by decide
  rw [e] at h
  simp [IntKind.wrap, IntKind.bits, IntKind.signed]
  omega

set_option maxHeartbeats 1000000 in
theorem rfits_any (n : Nat) (wd : Int) (w : World) (hn : n < 256 ^ 8) :
    Calls Tryd.prog 19 #[.int .u64 (n : Int), .int .i64 wd] w fun e w' => e = .returned (.bool (fitsV n wd)) ∧ Below w.heap.size w w' := by
  have HN := Lib.hid hn; clear hn
  rcases isW_cases wd with ⟨h1, h2⟩ | ⟨h1, h2⟩
  · have H1 := Lib.hid h1; clear h1 h2
    go_enter Tryd.func19, Tryd.ntmps19
    go_wp2_with fail
    refine (keeps (rwidth_any wd _)).mono ?_
    rw [H1.out]
    rintro e w1 ⟨rfl, rfl⟩
    go_wp2_with fail
    go_ret
    exact ⟨by unfold fitsV; rw [H1.out]; rfl, Below.refl _ _⟩
  · obtain ⟨k, rfl⟩ : ∃ k : Nat, wd = (k : Int) := ⟨wd.toNat, by omega⟩
    have hk8 : k ≤ 8 := by omega
    have H1 := Lib.hid h1; clear h1 h2
    go_enter Tryd.func19, Tryd.ntmps19
    go_wp2_with fail
    refine (keeps (rwidth_any k _)).mono ?_
    rw [H1.out]
    rintro e w1 ⟨rfl, rfl⟩
    go_wp2_with fail
    go_loopw [0, 5] (fun vn vi wr => ∃ i : Nat, i ≤ k ∧ vi = .int .i64 i ∧ vn = .int .u64 ((n / 256 ^ i : Nat) : Int) ∧ Below w.heap.size w wr) (fun _ vi _ => k - (intOf vi).toNat)
    case atStart => exact ⟨0, Nat.zero_le _, rfl, by simp, Below.refl _ _⟩
    case round =>
      obtain ⟨i, hi, rfl, rfl, hbr⟩ := hrel
      obtain ⟨m, hm⟩ : ∃ m, n / 256 ^ i = m := ⟨_, rfl⟩
      have HM : Hid (n / 256 ^ (i + 1) = m / 256) := by show _ = _; rw [Nat.pow_succ, ← Nat.div_div_eq_div_mul, hm]
      have hwr := wrap_u64 (x := (m : Int) / 256) (m := m / 256) (by omega) (by have := HN.out; have : n / 256 ^ i ≤ n := Nat.div_le_self _ _; omega)
      rw [hm]
      by_cases hlt : i < k
      · clear hm
        go_wp2_with fail
        go_outline
        go_roundw
        case rel => exact ⟨i + 1, by omega, by go_num, by rw [HM.out]; go_num, hbr⟩
        case measure => simp [intOf]; omega
      · obtain rfl : i = k := by omega
        have HF : Hid (((m : Int) == 0) = fitsV n i) := by
          show _ = _
          unfold fitsV
          have hp : 0 < 256 ^ i := Nat.pow_pos (by decide)
          rw [H1.out, Bool.true_and, Bool.eq_iff_iff, beq_iff_eq, decide_eq_true_iff, show (i : Int).toNat = i by omega]
          have h0 := Nat.div_eq_zero_iff_lt (x := n) hp
          rw [hm] at h0
          omega
        clear hm
        go_wp2_with fail
        go_ret
        exact ⟨by rw [← HF.out]; rfl, hbr⟩
end Go.Proofs.YtmfdfpebbnagfaaDoor
