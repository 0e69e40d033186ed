/-
  What the reference of layer 1 writes in decimal digits.
  Conditions: none.
-/
import Derived.Test.YtllgnogiicdhfaaDoorProg
import Derived.Test.YtllgnogiicdhfaaDoorPlain01
import Derived.WalkLawsBesides
import Derived.WalkSpells
import Derived.Deep.QuietTactic
import Derived.BigQuiet
import Derived.Outline
import Derived.Lib.Hide
set_option linter.unusedVariables false
namespace Go.Proofs.YtllgnogiicdhfaaDoor
open Go Go.RowKit

theorem wrap_u64 {x : Int} {m : Nat} (hx : x = (m : Int)) (h : m < 256 ^ 8) : IntKind.u64.wrap x = x := by
  subst hx
  have e : (256 : Nat) ^ 8 = 18446744073709551616 := by decide
  rw [e] at h
  simp [IntKind.wrap, IntKind.bits, IntKind.signed]
  omega

set_option maxRecDepth 100000 in
theorem run_cut16 (n : Int) (h0 : 0 ≤ n) (h : n < 16) (wx : World) : (Instr.slice 9 (.string ⟨#[48, 49, 50, 51, 52, 53, 54, 55, 56, 57, 97, 98, 99, 100, 101, 102]⟩) (some (.int .i64 n)) (some (.int .i64 (n + 1))) none).run Tryd.prog wx = .ok (.string ⟨[hexD n.toNat].toArray⟩) wx := by
  have hc : n = 0 ∨ n = 1 ∨ n = 2 ∨ n = 3 ∨ n = 4 ∨ n = 5 ∨ n = 6 ∨ n = 7 ∨ n = 8 ∨ n = 9 ∨ n = 10 ∨ n = 11 ∨ n = 12 ∨ n = 13 ∨ n = 14 ∨ n = 15 := by omega
  rcases hc with rfl | rfl | rfl | rfl | rfl | rfl | rfl | rfl | rfl | rfl | rfl | rfl | rfl | rfl | rfl | rfl <;> rfl

theorem rdigit_any (n : Int) (h0 : 0 ≤ n) (h : n < 16) (w : World) :
    Calls Tryd.prog 50 #[.int .i64 n] w fun e w' => e = .returned (.string ⟨[hexD n.toNat].toArray⟩) ∧ w' = w := by
  have hcut := run_cut16 n h0 h
  obtain ⟨d, hd⟩ : ∃ d : UInt8, hexD n.toNat = d := ⟨_, rfl⟩
  rw [hd] at hcut ⊢
  clear hd
  go_enter Tryd.func50, Tryd.ntmps50
  go_wp2_with fail
  go_ret
  exact ⟨rfl, rfl⟩

theorem hexD_dec (n : Nat) (h : n < 10) : Lib.decDigits n = [hexD n] := by
  rw [Lib.decDigits, dif_pos h]
  unfold hexD
  rw [if_pos h]

set_option maxHeartbeats 1000000 in
theorem rdigits01_any (k : Nat) : ∀ (n : Nat) (w : World), n < k → n < 18446744073709551616 →
    Calls Tryd.prog 42 #[.int .u64 (n : Int)] w fun e w' => e = .returned (.string ⟨(Lib.decDigits n).toArray⟩) ∧ w' = w := by
  induction k with
  | zero => intro n w h; omega
  | succ k ih =>
    intro n w hk hn
    by_cases h10 : n < 10
    · have HD := Lib.hid (hexD_dec n h10)
      have w1 : IntKind.i64.wrap (n : Int) = (n : Int) := by rw [IntKind.wrap_i64]; omega
      clear ih hk hn
      go_enter Tryd.func42, Tryd.ntmps42
      go_wp2_with fail
      refine (keeps (rdigit_any (n : Int) (by omega) (by omega) _)).mono ?_
      rintro e w2 ⟨rfl, rfl⟩
      go_wp2_with fail
      go_ret
      exact ⟨by rw [HD.out]; rfl, rfl⟩
    · have IH := Lib.hid ih; clear ih
      have HQ : Hid (Lib.decDigits n = Lib.decDigits (n / 10) ++ [hexD (n % 10)]) := by
        show _ = _
        rw [← hexD_dec (n % 10) (by omega), Lib.decDigits, dif_neg h10, Lib.decDigits.eq_def (n % 10), dif_pos (by omega)]
      have hl := Lib.decDigits_length (n / 10)
      have hl2 : (Lib.decDigits (n / 10)).length ≤ 20 := by
        rw [hl]
        have := Lib.numDigits_eq (n / 10) (by omega) (by omega)
        split at this <;> omega
      clear hl
      generalize hA : Lib.decDigits (n / 10) = A at *
      have HA := Lib.hid hA; clear hA
      have w1 : IntKind.u64.wrap ((n : Int) / 10) = ((n / 10 : Nat) : Int) := by
        have := wrap_u64 (x := (n : Int) / 10) (m := n / 10) (by omega) (by have : (256 : Nat) ^ 8 = 18446744073709551616 := by decide
                                                                            omega)
        rw [this]; rfl
      have w2 : IntKind.u64.wrap ((n : Int) % 10) = (n : Int) % 10 := wrap_u64 (m := n % 10) (by omega) (by have : (256 : Nat) ^ 8 = 18446744073709551616 := by decide
                                                                                                            omega)
      have w3 : IntKind.i64.wrap ((n : Int) % 10) = (n : Int) % 10 := by rw [IntKind.wrap_i64]; omega
      have w4 : (n : Int).tmod 10 = (n : Int) % 10 := Int.tmod_eq_emod_of_nonneg (by omega)
      have HN : Hid (n / 10 < k) := by show n / 10 < k; omega
      have HN2 := Lib.hid hn
      clear hk hn
      go_enter Tryd.func42, Tryd.ntmps42
      go_wp2_with fail
      refine (keeps (IH.out (n / 10) _ HN.out (by have := HN2.out; omega))).mono ?_
      rw [HA.out]
      rintro e w5 ⟨rfl, rfl⟩
      go_wp2_with fail
      refine (keeps (rdigit_any ((n : Int) % 10) (by omega) (by omega) _)).mono ?_
      rw [show ((n : Int) % 10).toNat = n % 10 by omega]
      rintro e w6 ⟨rfl, rfl⟩
      go_wp2_with fail
      go_ret
      exact ⟨by rw [HQ.out, ← str_append]; rfl, rfl⟩

end Go.Proofs.YtllgnogiicdhfaaDoor
