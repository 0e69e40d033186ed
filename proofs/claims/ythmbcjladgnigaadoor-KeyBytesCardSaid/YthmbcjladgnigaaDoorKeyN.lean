/-
  The next key, in plain Lean, and what the reference's Next computes.
  Conditions: at most 2^40 bytes.
-/
import Derived.Test.YthmbcjladgnigaaDoorKeyRef2
import Derived.Test.YthmbcjladgnigaaDoorCut
set_option linter.unusedVariables false
namespace Go.Proofs.YthmbcjladgnigaaDoor
open Go Go.RowKit

/-- Where the greatest characters at the end begin. -/
theorem tail_from (l : List UInt8) : ∀ k, k ≤ l.length → (∀ j, k ≤ j → j < l.length → l.getD j 0 = 122) → ∃ n, n ≤ k ∧ (∀ j, n ≤ j → j < l.length → l.getD j 0 = 122) ∧ (0 < n → l.getD (n - 1) 0 ≠ 122)
  | 0, _, h => ⟨0, Nat.le_refl _, h, fun h => absurd h (Nat.lt_irrefl _)⟩
  | k + 1, hk, h => by
    by_cases hz : l.getD k 0 = 122
    · obtain ⟨n, h1, h2, h3⟩ := tail_from l k (by omega) fun j hj hl => by
        by_cases e : j = k
        · rw [e]; exact hz
        · exact h j (by omega) hl
      exact ⟨n, by omega, h2, h3⟩
    · exact ⟨k + 1, Nat.le_refl _, h, fun _ => by simpa using hz⟩
def tn (l : List UInt8) : Nat := (Lib.trimRightB l 122).length
theorem tn_is {l : List UInt8} {n : Nat} (h1 : n ≤ l.length) (h2 : ∀ j, n ≤ j → j < l.length → l.getD j 0 = 122) (h3 : 0 < n → l.getD (n - 1) 0 ≠ 122) : Lib.trimRightB l 122 = l.take n ∧ tn l = n := by
  have e : Lib.trimRightB l 122 = l.take n := by
    refine Lib.trimRightB_take l 122 n h1 (fun j b hj hb => ?_) (fun b hn hb => ?_)
    · have hjl : j < l.length := (List.getElem?_eq_some_iff.1 hb).1
      have := h2 j hj hjl
      rw [List.getD, hb] at this
      exact this
    · have := h3 hn
      rw [List.getD, hb] at this
      exact this
  refine ⟨e, ?_⟩
  unfold tn
  rw [e, List.length_take]
  omega
theorem tn_spec (l : List UInt8) : tn l ≤ l.length ∧ (∀ j, tn l ≤ j → j < l.length → l.getD j 0 = 122) ∧ (0 < tn l → l.getD (tn l - 1) 0 ≠ 122) ∧ Lib.trimRightB l 122 = l.take (tn l) := by
  obtain ⟨n, h1, h2, h3⟩ := tail_from l l.length (Nat.le_refl _) fun j hj hl => absurd hl (by omega)
  obtain ⟨e1, e2⟩ := tn_is h1 h2 h3
  rw [e2]
  exact ⟨h1, h2, h3, e1⟩
def succK (c : UInt8) : UInt8 := keyL.getD (Lib.indexByte keyL c + 1).toNat 0
def nextV (l : List UInt8) : List UInt8 × Bool :=
  if keyV l = 0 then (if l.length < 32 then (l ++ [45], true) else if tn l = 0 then ([], false) else (l.take (tn l - 1) ++ [succK (l.getD (tn l - 1) 0)], true)) else ([], false)
theorem nextV_no {l : List UInt8} (h : keyV l ≠ 0) : nextV l = ([], false) := by unfold nextV; rw [if_neg h]
theorem nextV_short {l : List UInt8} (h : keyV l = 0) (h2 : l.length < 32) : nextV l = (l ++ [45], true) := by unfold nextV; rw [if_pos h, if_pos h2]
theorem nextV_last {l : List UInt8} (h : keyV l = 0) (h2 : ¬ l.length < 32) (h3 : tn l = 0) : nextV l = ([], false) := by unfold nextV; rw [if_pos h, if_neg h2, if_pos h3]
theorem nextV_succ {l : List UInt8} (h : keyV l = 0) (h2 : ¬ l.length < 32) (h3 : ¬ tn l = 0) : nextV l = (l.take (tn l - 1) ++ [succK (l.getD (tn l - 1) 0)], true) := by unfold nextV; rw [if_pos h, if_neg h2, if_neg h3]
theorem cut_key : ∀ q : Nat, q < 38 → keyS.extract (q + 1) (q + 2) = ⟨[keyL.getD (q + 1) 0].toArray⟩ := by decide +kernel
theorem keyV_zero {l : List UInt8} (h : keyV l = 0) : l.all isKey = true ∧ 0 < l.length ∧ l.length ≤ 32 := by
  rcases keyV_cases l with ⟨h1, _⟩ | ⟨h1, _⟩ | ⟨h1, _⟩ | ⟨_, h2⟩
  · rw [h] at h1; cases h1
  · rw [h] at h1; cases h1
  · rw [h] at h1; cases h1
  · exact h2
theorem str_ext (s : ByteArray) (i : Nat) : s.extract 0 i = ⟨(s.data.toList.take i).toArray⟩ := by
  apply ByteArray.ext
  apply Array.ext'
  rw [ByteArray.data_extract, Array.toList_extract]
  simp [List.extract]

set_option maxHeartbeats 2000000 in
theorem rknext_any (s : ByteArray) (hz : s.size ≤ 1099511627776) (w : World) :
    Calls Tryd.prog 21 #[.string s] w fun e w' => e = .returned (.tuple #[.string ⟨(nextV s.data.toList).1.toArray⟩, .bool (nextV s.data.toList).2]) ∧ Below w.heap.size w w' := by
  have hlen : s.data.toList.length = s.size := str_len s
  by_cases hk : keyV s.data.toList = 0
  · have HK := Lib.hid hk
    obtain ⟨hall, hpos, h32⟩ := keyV_zero hk
    by_cases h1 : s.size < 32
    · have HN := Lib.hid (nextV_short hk (by omega))
      have d1 : decide ((s.size : Int) < 32) = true := by rw [decide_eq_true_iff]; omega
      have hst : (s ++ ⟨#[45]⟩ : ByteArray) = ⟨(s.data.toList ++ [45]).toArray⟩ := by rw [← str_append, str_back]
      have HST := Lib.hid hst
      have hs1 : (⟨#[45]⟩ : ByteArray).size = 1 := rfl
      have isl : ∀ wx, (Instr.slice 9 (.string keyS) none (some (.int .i64 1)) none).run Tryd.prog wx = .ok (.string ⟨#[45]⟩) wx := fun wx => by kernel_rfl
      clear hk hall hlen hst
      go_enter Tryd.func21, Tryd.ntmps21
      go_wp2_with fail
      refine (rkcheck_any s hz _).mono ?_
      rw [HK.out]
      rintro e w' ⟨rfl, rfl⟩
      go_wp2_with fail
      refine (letters_any _).mono ?_
      rintro e w' ⟨rfl, rfl⟩
      go_wp2_with fail
      go_ret2
      exact ⟨by rw [HN.out, ← HST.out]; rfl, Below.refl _ _⟩
    · have d1 : decide ((s.size : Int) < 32) = false := by rw [decide_eq_false_iff_not]; omega
      have hs32 : s.size = 32 := by omega
      have HS := Lib.hid hs32
      have HL : Hid (s.data.toList.length = 32) := by show _ = _; omega
      have HA := Lib.hid hall
      clear hk hall hpos h32 h1 hlen
      go_enter Tryd.func21, Tryd.ntmps21
      go_wp2_with fail
      refine (rkcheck_any s hz _).mono ?_
      rw [HK.out]
      rintro e w' ⟨rfl, rfl⟩
      go_wp2_with fail
      go_loopw [4] (fun vi wr => ∃ k : Nat, k ≤ 32 ∧ vi = .int .i64 ((k : Int) - 1) ∧ Hid (∀ j, k ≤ j → j < 32 → s.data.toList.getD j 0 = 122) ∧ wr = w) (fun vi _ => (intOf vi + 1).toNat)
      case atStart => exact ⟨32, Nat.le_refl _, rfl, fun j h1 h2 => absurd h1 (by omega), rfl⟩
      case round =>
        obtain ⟨k, hk, rfl, ht, rfl⟩ := hrel
        cases k with
        | zero =>
          have HN : Hid (nextV s.data.toList = ([], false)) := nextV_last HK.out (by have := HS.out; have := HL.out; omega) (tn_is (Nat.zero_le _) (fun j hj hl => ht.out j hj (by have := HS.out; have := HL.out; omega)) (fun h => absurd h (Nat.lt_irrefl _))).2
          rw [show (((0 : Nat) : Int) - 1) = -1 from rfl]
          clear ht
          go_wp2_with fail
          go_ret2
          exact ⟨by rw [HN.out]; rfl, Below.refl _ _⟩
        | succ i =>
          rw [show (((i + 1 : Nat) : Int) - 1) = (i : Int) by omega]
          obtain ⟨c, hc⟩ : ∃ c, s.data.toList.getD i 0 = c := ⟨_, rfl⟩
          have i1 := run_str_at (P := Tryd.prog) s 9 Tryd.underlying9 .i64 (i : Int) i rfl (by have := HS.out; omega) c hc.symm
          have hkc : isKey c = true := by rw [← hc]; exact all_get HA.out i (by have := HS.out; have := HL.out; omega)
          obtain ⟨f1, f2, f3, f4⟩ := isKey_facts hkc
          obtain ⟨q, hq⟩ : ∃ q : Nat, Lib.indexByte keyL c = (q : Int) := ⟨(Lib.indexByte keyL c).toNat, by unfold isKey at hkc; rw [decide_eq_true_iff] at hkc; omega⟩
          have HQ := Lib.hid hq
          rw [hq] at f2 f3 f4
          by_cases hz : c = 122
          · have h38 : q = 38 := by have := f3.2 hz; omega
            have d2 : decide ((q : Int) < 38) = false := by rw [decide_eq_false_iff_not]; omega
            have d2n : decide (q < 38) = false := by rw [decide_eq_false_iff_not]; omega
            have HT : Hid (∀ j, i ≤ j → j < 32 → s.data.toList.getD j 0 = 122) := by
              intro j h1 h2
              by_cases h : j = i
              · rw [h, hc, hz]
              · exact ht.out j (by omega) h2
            clear hc hkc f1 f2 f3 f4 hq hz h38 ht
            go_wp2_with fail
            refine (place_any c _).mono ?_
            rw [HQ.out]
            rintro e w' ⟨rfl, rfl⟩
            go_wp2_with fail
            refine (letters_any _).mono ?_
            rintro e w' ⟨rfl, rfl⟩
            go_wp2_with fail
            go_roundw
            case rel => exact ⟨i, by omega, rfl, HT, trivial⟩
            case measure => simp [intOf]
          · have h38 : q < 38 := by
              have : ¬ ((q : Int) = 38) := fun h => hz (f3.1 h)
              omega
            have htn := tn_is (l := s.data.toList) (n := i + 1) (by have := HS.out; have := HL.out; omega) (fun j hj hl => ht.out j hj (by have := HS.out; have := HL.out; omega)) (fun _ => by rw [Nat.add_sub_cancel, hc]; exact hz)
            have HN : Hid (nextV s.data.toList = (s.data.toList.take i ++ [keyL.getD (q + 1) 0], true)) := by
              show _ = _
              rw [nextV_succ HK.out (by have := HS.out; have := HL.out; omega) (by rw [htn.2]; omega), htn.2, Nat.add_sub_cancel, hc]
              unfold succK
              rw [HQ.out, show ((q : Int) + 1).toNat = q + 1 by omega]
            have d2 : decide ((q : Int) < 38) = true := by rw [decide_eq_true_iff]; omega
            have d2n : decide (q < 38) = true := by rw [decide_eq_true_iff]; omega
            have isl := run_slice_str (P := Tryd.prog) keyS 9 Tryd.underlying9 ((q : Int) + 1) ((q : Int) + 2) (q + 1) (q + 2) rfl rfl (by omega) (by show q + 2 ≤ 39; omega)
            rw [cut_key q h38] at isl
            have ist : ∀ wx, (Instr.slice 9 (.string s) none (some (.int .i64 (i : Int))) none).run Tryd.prog wx = .ok (.string (s.extract 0 i)) wx := fun wx => by
              rw [run_slice_string_h wx 9 s Tryd.underlying9 .i64 (i : Int) (by omega) (by have := HS.out; omega), Int.toNat_natCast]
            obtain ⟨d, hd⟩ : ∃ d, keyL.getD (q + 1) 0 = d := ⟨_, rfl⟩
            rw [hd] at isl HN
            have hst : (s.extract 0 i ++ ⟨[d].toArray⟩ : ByteArray) = ⟨(s.data.toList.take i ++ [d]).toArray⟩ := by rw [str_ext, str_append]
            have HST := Lib.hid hst
            have hs1 : (⟨[d].toArray⟩ : ByteArray).size = 1 := rfl
            have hs2 : (s.extract 0 i).size ≤ 32 := by rw [ByteArray.size_extract]; have := HS.out; omega
            have hw1 : IntKind.i64.wrap ((q : Int) + 1) = (q : Int) + 1 := IntWalk.i64_in _ (by omega)
            have hw2 : IntKind.i64.wrap ((q : Int) + 2) = (q : Int) + 2 := IntWalk.i64_in _ (by omega)
            clear hc hkc f1 f2 f3 f4 hq hz ht htn hd hst
            go_wp2_with fail
            refine (place_any c _).mono ?_
            rw [HQ.out]
            rintro e w' ⟨rfl, rfl⟩
            go_wp2_with fail
            refine (letters_any _).mono ?_
            rintro e w' ⟨rfl, rfl⟩
            go_wp2_with fail
            go_quiet ((go_at_call 32; exact Calls.quiet_of_same ((letters_any _).mono fun _ _ h => ⟨h.1, h.2.symm⟩)))
            go_wp2_with fail
            go_ret2
            exact ⟨by rw [HN.out, ← HST.out]; rfl, below_drewN _ _⟩
  · have HN := Lib.hid (nextV_no hk)
    obtain ⟨x, hx⟩ : ∃ x, keyV s.data.toList = x := ⟨_, rfl⟩
    have hx0 : (x != 0) = true := by rw [bne_iff_ne, ← hx]; exact hk
    have HX := Lib.hid hx
    clear hk hx hlen
    go_enter Tryd.func21, Tryd.ntmps21
    go_wp2_with fail
    refine (rkcheck_any s hz _).mono ?_
    rw [HX.out]
    rintro e w' ⟨rfl, rfl⟩
    go_wp2_with fail
    go_ret2
    exact ⟨by rw [HN.out]; rfl, Below.refl _ _⟩
end Go.Proofs.YthmbcjladgnigaaDoor
