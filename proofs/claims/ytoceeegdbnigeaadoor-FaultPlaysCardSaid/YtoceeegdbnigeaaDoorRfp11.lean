/-
  Plans: what the reference's Parse computes.
  Conditions: none.
-/
import Derived.Test.YtoceeegdbnigeaaDoorPar11
import Derived.Test.YtoceeegdbnigeaaDoorKp11
set_option linter.unusedVariables false
namespace Go.Proofs.YtoceeegdbnigeaaDoor
open Go Go.RowKit

def UB (i n : Nat) : Prop := n < 10 ^ (min i 7)
theorem UB.start : UB 0 0 := by unfold UB; decide
theorem UB.zero (i : Nat) : UB i 0 := Nat.pow_pos (by decide)
theorem UB.le {i n : Nat} (h : UB i n) : n < 10000000 := by
  unfold UB at h
  exact Nat.lt_of_lt_of_le h (Nat.le_trans (Nat.pow_le_pow_right (by decide) (Nat.min_le_right i 7)) (by decide))
theorem UB.step {i n d : Nat} (h : UB i n) (hi : i < 7) (hd : d ≤ 9) : UB (i + 1) (n * 10 + d) := by
  unfold UB at *
  rw [Nat.min_eq_left (by omega)] at h
  rw [Nat.min_eq_left (by omega), Nat.pow_succ]
  omega
theorem drop_at (s : ByteArray) (i : Nat) (h : i < s.size) (x : UInt8) (hx : s.data.toList.getD i 0 = x) : s.data.toList.drop i = x :: s.data.toList.drop (i + 1) := by
  have hl : i < s.data.toList.length := by rw [str_len]; exact h
  rw [List.drop_eq_getElem_cons hl]
  rw [List.getD, List.getElem?_eq_getElem hl] at hx
  rw [← hx]
  rfl
theorem ext_from (s : ByteArray) (i : Nat) : s.extract i s.size = pack (s.data.toList.drop i) := by
  rw [← data_pack (s.extract i s.size), Lib.extract_data]
  congr 1
  rw [← str_len]
  exact List.take_of_length_le (by simp)
set_option maxRecDepth 100000 in
set_option maxHeartbeats 4000000 in
theorem until_any (s : ByteArray) (hs : s.size ≤ 1000000) (c : UInt8) (w : World) :
    Calls Tryd.prog 47 #[.string s, .int .u8 (c.toNat : Int)] w fun e w' => e = .returned (.tuple #[.int .i64 ((utL c 0 0 s.data.toList).1 : Int), .string (pack (utL c 0 0 s.data.toList).2)]) ∧ Below w.heap.size w w' := by
  obtain ⟨N, R, hNR⟩ : ∃ N R, utL c 0 0 s.data.toList = (N, R) := ⟨_, _, rfl⟩
  rw [hNR]
  have HU := Lib.hid hNR
  clear hNR
  have HL := Lib.hid (str_len s)
  go_enter Tryd.func47, Tryd.ntmps47
  go_wp2_with fail
  go_loopw [6, 7] (fun vn vi wr => ∃ i n : Nat, i ≤ s.size ∧ vn = .int .i64 n ∧ vi = .int .i64 i ∧ Hid (UB i n) ∧ Hid (utL c i n (s.data.toList.drop i) = (N, R)) ∧ Hid (wr = w)) (fun _ vi _ => s.size - (intOf vi).toNat)
  case atStart => exact ⟨0, 0, Nat.zero_le _, rfl, rfl, UB.start, HU, rfl⟩
  case round =>
    obtain ⟨i, n, hi, rfl, rfl, hB, hU, hw⟩ := hrel
    obtain rfl := hw.out
    by_cases hlt : i < s.size
    · obtain ⟨x, hx⟩ : ∃ x, s.data.toList.getD i 0 = x := ⟨_, rfl⟩
      have hix := run_str_at (P := Tryd.prog) s 9 Tryd.underlying9 .i64 (i : Int) i rfl hlt x hx.symm
      have hst := hU.out
      rw [drop_at s i hlt x hx, utL] at hst
      have hn7 := hB.out.le
      by_cases hxc : x = c
      · rw [if_pos hxc] at hst
        injection hst with e1 e2
        have d1 : ((x.toNat : Int) == (c.toNat : Int)) = true := by rw [hxc]; exact beq_self_eq_true _
        have isl : ∀ wx, (Instr.slice 9 (.string s) (some (.int .i64 ((i : Int) + 1))) none none).run Tryd.prog wx = .ok (.string (pack R)) wx := fun wx => by
          rw [run_slice_string_l wx 9 s Tryd.underlying9 .i64 ((i : Int) + 1) (by omega) (by omega), show ((i : Int) + 1).toNat = i + 1 by omega, ext_from, e2]
        have hsum : IntKind.i64.wrap ((i : Int) + 1) = (i : Int) + 1 := IntWalk.i64_in _ (by omega)
        have HN := Lib.hid e1
        clear e1 e2 hx hxc hU
        go_wp2_with fail
        go_quiet (fail)
        have hb2 : Below wr.heap.size wr (wr.drewN nq) := ⟨rfl, rfl, rfl, Nat.le_refl _, fun _ _ => rfl⟩
        generalize wr.drewN nq = w2 at *
        go_wp2_with fail
        go_ret2
        exact ⟨by rw [← HN.out]; rfl, hb2⟩
      · rw [if_neg hxc] at hst
        have d1 : ((x.toNat : Int) == (c.toNat : Int)) = false := by
          rw [beq_eq_false_iff_ne]
          intro e2
          exact hxc (UInt8.toNat_inj.mp (by omega))
        have hsum : IntKind.i64.wrap ((i : Int) + 1) = (i : Int) + 1 := IntWalk.i64_in _ (by omega)
        rcases (show (x.toNat < 48) ∨ (48 ≤ x.toNat ∧ 57 < x.toNat) ∨ (48 ≤ x.toNat ∧ x.toNat ≤ 57 ∧ 7 ≤ i) ∨ (48 ≤ x.toNat ∧ x.toNat ≤ 57 ∧ i < 7) by omega) with h | ⟨h, h'⟩ | ⟨h, h', h7⟩ | ⟨h, h', h7⟩
        · have d2 : decide ((x.toNat : Int) < 48) = true := by rw [decide_eq_true_iff]; omega
          rw [if_pos (Or.inl h)] at hst
          have HST := Lib.hid hst
          clear hst hx hxc hU h
          go_wp2_with fail
          go_roundw
          case rel => exact ⟨i + 1, 0, by omega, rfl, by go_num, UB.zero _, HST, trivial⟩
          case measure => simp [intOf]; omega
        · have d2 : decide ((x.toNat : Int) < 48) = false := by rw [decide_eq_false_iff_not]; omega
          have d3 : decide (57 < (x.toNat : Int)) = true := by rw [decide_eq_true_iff]; omega
          rw [if_pos (Or.inr (Or.inl h'))] at hst
          have HST := Lib.hid hst
          clear hst hx hxc hU h h'
          go_wp2_with fail
          go_roundw
          case rel => exact ⟨i + 1, 0, by omega, rfl, by go_num, UB.zero _, HST, trivial⟩
          case measure => simp [intOf]; omega
        · have d2 : decide ((x.toNat : Int) < 48) = false := by rw [decide_eq_false_iff_not]; omega
          have d3 : decide (57 < (x.toNat : Int)) = false := by rw [decide_eq_false_iff_not]; omega
          have d4 : decide (7 ≤ (i : Int)) = true := by rw [decide_eq_true_iff]; omega
          rw [if_pos (Or.inr (Or.inr h7))] at hst
          have HST := Lib.hid hst
          clear hst hx hxc hU h h' h7
          go_wp2_with fail
          go_roundw
          case rel => exact ⟨i + 1, 0, by omega, rfl, by go_num, UB.zero _, HST, trivial⟩
          case measure => simp [intOf]; omega
        · have d2 : decide ((x.toNat : Int) < 48) = false := by rw [decide_eq_false_iff_not]; omega
          have d3 : decide (57 < (x.toNat : Int)) = false := by rw [decide_eq_false_iff_not]; omega
          have d4 : decide (7 ≤ (i : Int)) = false := by rw [decide_eq_false_iff_not]; omega
          rw [if_neg (by omega)] at hst
          obtain ⟨d, hd⟩ : ∃ d, x.toNat - 48 = d := ⟨_, rfl⟩
          rw [hd] at hst
          have HB2 := Lib.hid (hB.out.step (d := d) h7 (by omega))
          have HST := Lib.hid hst
          have w1 : IntKind.u8.wrap ((x.toNat : Int) - 48) = (d : Int) := by rw [IntKind.wrap_u8]; omega
          have w2 : IntKind.i64.wrap (d : Int) = (d : Int) := IntWalk.i64_in _ (by omega)
          have w3 : IntKind.i64.wrap ((n : Int) * 10) = (n : Int) * 10 := IntWalk.i64_in _ (by omega)
          have w4 : IntKind.i64.wrap ((n : Int) * 10 + (d : Int)) = (n : Int) * 10 + (d : Int) := IntWalk.i64_in _ (by omega)
          clear hst hx hxc hU h h' h7 hd
          go_wp2_with fail
          go_roundw
          case rel => exact ⟨i + 1, n * 10 + d, by omega, by go_num, by go_num, HB2, HST, trivial⟩
          case measure => simp [intOf]; omega
    · obtain rfl : i = s.size := by omega
      have hst := hU.out
      rw [List.drop_eq_nil_of_le (by rw [HL.out]; exact Nat.le_refl _), utL] at hst
      injection hst with e1 e2
      have HN := Lib.hid e1
      have HR : Hid ((⟨#[]⟩ : ByteArray) = pack R) := by show _ = _; rw [← e2]; rfl
      clear hlt hi e1 e2 hU
      go_wp2_with fail
      go_ret2
      exact ⟨by rw [← HN.out, ← HR.out]; rfl, Below.refl _ _⟩
end Go.Proofs.YtoceeegdbnigeaaDoor
