/-
  Plans: the reference's digits, and texts.
  Conditions: none.
-/
import Derived.Test.YtoceeegdbnigeaaDoorFlt1
import Derived.Deep.CutRange
import Derived.Deep.CutBlock
import Derived.BigRegion
import Derived.Deep.RegionWith
set_option linter.unusedVariables false
namespace Go.Proofs.YtoceeegdbnigeaaDoor
open Go Go.RowKit

theorem conv1 (W : World) (B : Nat) (x : UInt8) (h : W.cell? ⟨B, 0, none⟩ = some (.int .u8 (x.toNat : Int))) :
    (convert 53 9 (.slice (some ⟨B, 0, none⟩) 1 1)).run Tryd.prog W = .ok (.string ⟨#[x]⟩) W := by
  have hb : BytesAt W (.slice (some ⟨B, 0, none⟩) 1 1) [x] := ⟨_, 1, rfl, Nat.le_refl _, fun _ => ⟨B, 0, rfl, fun i hi => by
    obtain rfl : i = 0 := by simp at hi; omega
    exact h⟩⟩
  exact hb.convert 53 9 5 Tryd.underlying53 Tryd.underlying5 Tryd.underlying9
theorem hexD_dec (n : Nat) (h : n < 10) : Lib.decDigits n = [hexD n] := by
  unfold Lib.decDigits
  rw [dif_pos h]
  unfold hexD
  rw [if_pos h]
theorem hexD_nat (n : Nat) (h : n < 10) : ((hexD n).toNat : Int) = 48 + (n : Int) := by
  unfold hexD
  rw [if_pos h]
  simp
  omega
set_option maxRecDepth 20000 in
set_option maxHeartbeats 1000000 in
theorem rdig_any (k : Nat) : ∀ (n : Nat) (w : World), n < k → Hid (n ≤ 1000000000) →
    Calls Tryd.prog 41 #[.int .i64 (n : Int)] w fun e w' => e = .returned (.string ⟨(Lib.decDigits n).toArray⟩) ∧ Below w.heap.size w w' := by
  induction k with
  | zero => intro n w h; omega
  | succ k ih =>
    intro n w hk hn0
    have hn := hn0.out
    by_cases h10 : n < 10
    · have HD := Lib.hid (hexD_dec n h10)
      have hq := hexD_nat n h10
      have hnew : (w.alloc (.cells #[.int .u8 (48 + (n : Int))] 5)).cell? ⟨w.heap.size, 0, none⟩ = some (.int .u8 ((hexD n).toNat : Int)) := by rw [hq]; exact new_cell _ _ 0 _ rfl
      have hcv := conv1 (w.alloc (.cells #[.int .u8 (48 + (n : Int))] 5)) w.heap.size (hexD n) hnew
      have c1 : Below w.heap.size w (w.alloc (.cells #[.int .u8 (48 + (n : Int))] 5)) := (Below.refl _ _).alloc (Nat.le_refl _) _
      have d10 : decide ((n : Int) < 10) = true := by rw [decide_eq_true_iff]; omega
      have w1 : IntKind.i64.wrap (48 + (n : Int)) = 48 + (n : Int) := IntWalk.i64_in _ (by omega)
      have w2 : IntKind.u8.wrap (48 + (n : Int)) = 48 + (n : Int) := by rw [IntKind.wrap_u8]; omega
      clear ih hk hn hnew hq h10 hn0
      go_enter Tryd.func41, Tryd.ntmps41
      go_wp2_with fail
      go_ret
      exact ⟨by rw [HD.out]; rfl, c1⟩
    · have IH := Lib.hid ih; clear ih
      have HQ : Hid (Lib.decDigits n = Lib.decDigits (n / 10) ++ [hexD (n % 10)]) := by
        show _ = _
        rw [← hexD_dec (n % 10) (by omega), Lib.decDigits, dif_neg h10, Lib.decDigits.eq_def (n % 10), dif_pos (by omega)]
      have hl := Lib.decDigits_length (n / 10)
      have hl2 : (Lib.decDigits (n / 10)).length ≤ 20 := by
        rw [hl]
        have := Lib.numDigits_eq (n / 10) (by omega) (by omega)
        split at this <;> omega
      clear hl
      generalize hA : Lib.decDigits (n / 10) = A at *
      have HA := Lib.hid hA; clear hA
      have w4 : (n : Int).tmod 10 = ((n % 10 : Nat) : Int) := by rw [Int.tmod_eq_emod_of_nonneg (by omega)]; rfl
      have w5 : (n : Int).tdiv 10 = ((n / 10 : Nat) : Int) := by rw [Int.tdiv_eq_ediv_of_nonneg (by omega)]; rfl
      obtain ⟨q, hq⟩ : ∃ q, n / 10 = q := ⟨_, rfl⟩
      obtain ⟨r, hr⟩ : ∃ r, n % 10 = r := ⟨_, rfl⟩
      rw [hr] at w4
      rw [hq] at w5
      have w4' : (n : Int) % 10 = (r : Int) := by omega
      have w5' : (n : Int) / 10 = (q : Int) := by omega
      have wa : IntKind.i64.wrap ((n : Int) / 10) = (q : Int) := by rw [w5']; exact IntWalk.i64_in _ (by omega)
      have wb : IntKind.i64.wrap ((n : Int) % 10) = (r : Int) := by rw [w4']; exact IntWalk.i64_in _ (by omega)
      have w6 : IntKind.i64.wrap (q : Int) = (q : Int) := IntWalk.i64_in _ (by omega)
      have w7 : IntKind.i64.wrap (r : Int) = (r : Int) := IntWalk.i64_in _ (by omega)
      have w8 : IntKind.i64.wrap (48 + (r : Int)) = 48 + (r : Int) := IntWalk.i64_in _ (by omega)
      have w9 : IntKind.u8.wrap (48 + (r : Int)) = 48 + (r : Int) := by rw [IntKind.wrap_u8]; omega
      have hq2 : q ≤ 100000000 := by omega
      have hr2 : r < 10 := by omega
      have HN : Hid (q < k) := by show q < k; omega
      have HN9 : Hid (q ≤ 1000000000) := by show q ≤ 1000000000; omega
      have d10 : decide ((n : Int) < 10) = false := by rw [decide_eq_false_iff_not]; omega
      have HqA : Hid (Lib.decDigits q = A) := by show _ = _; rw [← hq]; exact HA.out
      have HQ2 : Hid (Lib.decDigits n = A ++ [hexD r]) := by show _ = _; rw [HQ.out, hr]
      have hnat := hexD_nat r hr2
      have HC : Hid (∀ (W : World) (B : Nat), W.cell? ⟨B, 0, none⟩ = some (.int .u8 (48 + (r : Int))) → (convert 53 9 (.slice (some ⟨B, 0, none⟩) 1 1)).run Tryd.prog W = .ok (.string ⟨#[hexD r]⟩) W) := by
        intro W B h
        exact conv1 W B (hexD r) (by rw [hnat]; exact h)
      clear hk hn hq hr HQ HA hnat h10 hn0 hq2
      go_enter Tryd.func41, Tryd.ntmps41
      go_wp2_with fail
      go_cut [2] from 10 to 19 (fun s2 wx => s2 = .string ((⟨A.toArray⟩ : ByteArray) ++ ⟨#[hexD r]⟩) ∧ Below w.heap.size w wx)
      case first =>
        have c0 : Below w.heap.size w (w.alloc (.cells #[.int .u8 (48 + (r : Int))] 5)).drew := ((Below.refl _ _).alloc (Nat.le_refl _) _).drew
        have hn0 : (w.alloc (.cells #[.int .u8 (48 + (r : Int))] 5)).drew.cell? ⟨w.heap.size, 0, none⟩ = some (.int .u8 (48 + (r : Int))) := new_cell _ _ 0 _ rfl
        have hv0 := HC.out _ _ hn0
        go_region_with (go_at_call 41; refine (IH.out q _ HN.out HN9).mono ?_; rw [HqA.out]; rintro e w2 ⟨rfl, b1⟩; have hvA := HC.out (w2.alloc (.cells #[.int .u8 (48 + (r : Int))] 5)) w2.heap.size (new_cell _ _ 0 _ rfl); first | (have hvB := HC.out w2 w.heap.size (cell_kept hn0 b1); have cB := c0.trans (b1.mono c0.size)) | (have cB := (Below.refl w.heap.size w).drew.trans b1; have cA := cB.alloc cB.size (.cells #[.int .u8 (48 + (r : Int))] 5)))
        all_goals (go_wp2_with fail; go_meet; first | exact ⟨rfl, cA⟩ | exact ⟨rfl, cB⟩)
      case rest =>
        obtain ⟨rfl, c1⟩ := hcut
        go_wp2_with fail
        go_ret
        exact ⟨by rw [HQ2.out]; show Ending.returned (.string _) = _; rw [str_append], c1⟩
end Go.Proofs.YtoceeegdbnigeaaDoor
