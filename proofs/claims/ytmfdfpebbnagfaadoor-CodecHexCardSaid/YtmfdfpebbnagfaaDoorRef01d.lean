/-
  What the reference of layer 1 writes in hexadecimal and in decimal digits.
  Conditions: at most 2^44 bytes.
-/
import Derived.Test.YtmfdfpebbnagfaaDoorRef01
import Derived.Test.YtmfdfpebbnagfaaDoorHex
set_option linter.unusedVariables false
namespace Go.Proofs.YtmfdfpebbnagfaaDoor
open Go Go.RowKit

theorem run_cut16 (n : Int) (h0 : 0 ≤ n) (h : n < 16) (wx : World) : (Instr.slice 9 (.string ⟨#[48, 49, 50, 51, 52, 53, 54, 55, 56, 57, 97, 98, 99, 100, 101, 102]⟩) (some (.int .i64 n)) (some (.int .i64 (n + 1))) none).run Tryd.prog wx = .ok (.string ⟨[hexD n.toNat].toArray⟩) wx := by
  have hc : n = 0 ∨ n = 1 ∨ n = 2 ∨ n = 3 ∨ n = 4 ∨ n = 5 ∨ n = 6 ∨ n = 7 ∨ n = 8 ∨ n = 9 ∨ n = 10 ∨ n = 11 ∨ n = 12 ∨ n = 13 ∨ n = 14 ∨ n = 15 := by omega
  rcases hc with rfl | rfl | rfl | rfl | rfl | rfl | rfl | rfl | rfl | rfl | rfl | rfl | rfl | rfl | rfl | rfl <;> rfl

theorem rdigit_any (n : Int) (h0 : 0 ≤ n) (h : n < 16) (w : World) :
    Calls Tryd.prog 36 #[.int .i64 n] w fun e w' => e = .returned (.string ⟨[hexD n.toNat].toArray⟩) ∧ w' = w := by
  have hcut := run_cut16 n h0 h
  obtain ⟨d, hd⟩ : ∃ d : UInt8, hexD n.toNat = d := ⟨_, rfl⟩
  rw [hd] at hcut ⊢
  clear hd
  go_enter Tryd.func36, Tryd.ntmps36
  go_wp2_with fail
  go_ret
  exact ⟨rfl, rfl⟩

theorem hexD_dec (n : Nat) (h : n < 10) : Lib.decDigits n = [hexD n] := by
  rw [Lib.decDigits, dif_pos h]
  unfold hexD
  rw [if_pos h]

set_option maxHeartbeats 1000000 in
theorem rdigits01_any (k : Nat) : ∀ (n : Nat) (w : World), n < k → n < 18446744073709551616 →
    Calls Tryd.prog 27 #[.int .u64 (n : Int)] w fun e w' => e = .returned (.string ⟨(Lib.decDigits n).toArray⟩) ∧ w' = w := by
  induction k with
  | zero => intro n w h; omega
  | succ k ih =>
    intro n w hk hn
    by_cases h10 : n < 10
    · have HD := Lib.hid (hexD_dec n h10)
      have w1 : IntKind.i64.wrap (n : Int) = (n : Int) := by rw [IntKind.wrap_i64]; omega
      clear ih hk hn
      go_enter Tryd.func27, Tryd.ntmps27
      go_wp2_with fail
      refine (keeps (rdigit_any (n : Int) (by omega) (by omega) _)).mono ?_
      rintro e w2 ⟨rfl, rfl⟩
      go_wp2_with fail
      go_ret
      exact ⟨by rw [HD.out]; rfl, rfl⟩
    · have IH := Lib.hid ih; clear ih
      have HQ : Hid (Lib.decDigits n = Lib.decDigits (n / 10) ++ [hexD (n % 10)]) := by
        show _ = _
        rw [← hexD_dec (n % 10) (by omega), Lib.decDigits, dif_neg h10, Lib.decDigits.eq_def (n % 10), dif_pos (by omega)]
      have hl := Lib.decDigits_length (n / 10)
      have hl2 : (Lib.decDigits (n / 10)).length ≤ 20 := by
        rw [hl]
        have := Lib.numDigits_eq (n / 10) (by omega) (by omega)
        split at this <;> omega
      clear hl
      generalize hA : Lib.decDigits (n / 10) = A at *
      have HA := Lib.hid hA; clear hA
      have w1 : IntKind.u64.wrap ((n : Int) / 10) = ((n / 10 : Nat) : Int) := by
        have := wrap_u64 (x := (n : Int) / 10) (m := n / 10) (by omega) (by have : (256 : Nat) ^ 8 = 18446744073709551616 := by decide
                                                                            omega)
        rw [this]; rfl
      have w2 : IntKind.u64.wrap ((n : Int) % 10) = (n : Int) % 10 := wrap_u64 (m := n % 10) (by omega) (by have : (256 : Nat) ^ 8 = 18446744073709551616 := by decide
                                                                                                            omega)
      have w3 : IntKind.i64.wrap ((n : Int) % 10) = (n : Int) % 10 := by rw [IntKind.wrap_i64]; omega
      have w4 : (n : Int).tmod 10 = (n : Int) % 10 := Int.tmod_eq_emod_of_nonneg (by omega)
      have HN : Hid (n / 10 < k) := by show n / 10 < k; omega
      have HN2 := Lib.hid hn
      clear hk hn
      go_enter Tryd.func27, Tryd.ntmps27
      go_wp2_with fail
      refine (keeps (IH.out (n / 10) _ HN.out (by have := HN2.out; omega))).mono ?_
      rw [HA.out]
      rintro e w5 ⟨rfl, rfl⟩
      go_wp2_with fail
      refine (keeps (rdigit_any ((n : Int) % 10) (by omega) (by omega) _)).mono ?_
      rw [show ((n : Int) % 10).toNat = n % 10 by omega]
      rintro e w6 ⟨rfl, rfl⟩
      go_wp2_with fail
      go_ret
      exact ⟨by rw [HQ.out, ← str_append]; rfl, rfl⟩

theorem str_app2 (A : List UInt8) (x y : UInt8) : (⟨A.toArray⟩ ++ ⟨#[x]⟩ ++ ⟨#[y]⟩ : ByteArray) = ⟨(A ++ [x, y]).toArray⟩ := by
  rw [show (⟨#[x]⟩ : ByteArray) = ⟨[x].toArray⟩ from rfl, show (⟨#[y]⟩ : ByteArray) = ⟨[y].toArray⟩ from rfl, str_append, str_append, List.append_assoc]
  rfl

set_option maxHeartbeats 1000000 in
theorem rhex01_any (v : Value) (l : List UInt8) (w : World) (hv : BytesAt w v l) (hl : l.length ≤ 17592186044416) :
    Calls Tryd.prog 23 #[v] w fun e w' => e = .returned (.string ⟨(hexL l).toArray⟩) ∧ Below w.heap.size w w' := by
  obtain ⟨p, c, rfl, hc, hp⟩ := hv
  have HP := Lib.hid hp; clear hp
  go_enter Tryd.func23, Tryd.ntmps23
  go_wp2_with fail
  go_loopw [3, 4] (fun vs vi wr => ∃ (k : Nat) (A : List UInt8), k ≤ l.length ∧ vi = .int .i64 k ∧ vs = .string ⟨A.toArray⟩ ∧ Hid (A = hexL (l.take k)) ∧ Below w.heap.size w wr) (fun _ vi _ => l.length - (intOf vi).toNat)
  case atStart => exact ⟨0, [], Nat.zero_le _, rfl, rfl, rfl, Below.refl _ _⟩
  case round =>
    obtain ⟨k, A, hk, rfl, rfl, HA, hbr⟩ := hrel
    by_cases hlt : k < l.length
    · obtain ⟨b, o, rfl, hcell⟩ := HP.out (by omega)
      obtain ⟨x, hx⟩ : ∃ x : UInt8, x = l.getD k 0 := ⟨_, rfl⟩
      have hck : wr.cell? ⟨b, o + k, none⟩ = some (.int .u8 (x.toNat : Int)) := by
        rw [hbr.cell (p := ⟨b, o + k, none⟩) (World.block_lt_of_cell? w _ (hcell k hlt)), hcell k hlt, hx]
      have HS : Hid (hexL (l.take (k + 1)) = A ++ [hexD (x.toNat / 16), hexD (x.toNat % 16)]) := by
        show _ = _
        rw [hexL_take_succ l k hlt, HA.out, hx]
      clear hx hcell
      have hx8 : x.toNat < 256 := x.toNat_lt
      have hAl : A.length ≤ 2 * k := by rw [HA.out, hexL_length, List.length_take]; omega
      have w4 : (x.toNat : Int).tmod 16 = (x.toNat : Int) % 16 := Int.tmod_eq_emod_of_nonneg (by omega)
      clear HA
      go_wp2_with fail
      go_quiet ((go_at_call 36; exact Calls.quiet_of_same (rdigit_any _ (by omega) (by omega) _)))
      go_wp2_with fail
      go_roundw
      case rel => exact ⟨k + 1, A ++ [hexD (x.toNat / 16), hexD (x.toNat % 16)], by omega, by go_num, congrArg Value.string (str_app2 _ _ _), HS.out.symm, below_drewN hbr _⟩
      case measure => simp [intOf]; omega
    · have hkl : l.take k = l := List.take_of_length_le (by omega)
      rw [hkl] at HA
      clear hkl
      go_wp2_with fail
      go_ret
      exact ⟨by rw [← HA.out]; rfl, hbr⟩
end Go.Proofs.YtmfdfpebbnagfaaDoor
