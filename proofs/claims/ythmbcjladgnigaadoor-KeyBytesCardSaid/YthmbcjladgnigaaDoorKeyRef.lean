/-
  What the reference of layer 5 computes: Check, Fits, Common, Order, Name.
  Conditions: at most 2^40 bytes.
-/
import Derived.Test.YthmbcjladgnigaaDoorKey1
set_option linter.unusedVariables false
namespace Go.Proofs.YthmbcjladgnigaaDoor
open Go Go.RowKit

theorem index_at : ∀ (l : List UInt8) (c : UInt8) (i : Nat), i < l.length → l.getD i 0 = c → (∀ j, j < i → l.getD j 0 ≠ c) → Lib.indexByte l c = i
  | [], c, i, h, _, _ => by simp at h
  | x :: r, c, 0, _, h, _ => by
    have h : x = c := h
    simp [Lib.indexByte, h]
  | x :: r, c, i + 1, h1, h2, h3 => by
    have hx : x ≠ c := h3 0 (by omega)
    have ih := index_at r c i (by simpa using h1) h2 (fun j hj => h3 (j + 1) (by omega))
    have hb : (x == c) = false := by simpa using hx
    simp only [Lib.indexByte, hb, ih]
    simp
theorem index_out {l : List UInt8} {c : UInt8} (h : ∀ j, j < l.length → l.getD j 0 ≠ c) : Lib.indexByte l c = -1 := by
  refine index_none fun b hb => ?_
  obtain ⟨j, hj, rfl⟩ := List.getElem_of_mem hb
  have := h j hj
  rwa [List.getD, List.getElem?_eq_getElem hj] at this
theorem letters_any (w : World) :
    Calls Tryd.prog 32 #[] w fun e w' => e = .returned (.string keyS) ∧ w = w' := by
  go_enter Tryd.func32, Tryd.ntmps32
  go_wp2_with fail
  go_ret
  exact ⟨rfl, rfl⟩

set_option maxHeartbeats 1000000 in
theorem place_any (c : UInt8) (w : World) :
    Calls Tryd.prog 29 #[.int .u8 (c.toNat : Int)] w fun e w' => e = .returned (.int .i64 (Lib.indexByte keyL c)) ∧ w = w' := by
  go_enter Tryd.func29, Tryd.ntmps29
  go_wp2_with fail
  go_loop [3] (fun vi => ∃ i : Nat, i ≤ 39 ∧ vi = .int .i64 i ∧ Hid (∀ j, j < i → keyL.getD j 0 ≠ c)) (fun vi => 39 - (intOf vi).toNat)
  case atStart => exact ⟨0, Nat.zero_le _, rfl, fun j hj => absurd hj (Nat.not_lt_zero _)⟩
  case round =>
    obtain ⟨i, hi, rfl, hk⟩ := hrel
    by_cases hlt : i < 39
    · obtain ⟨x, hx⟩ : ∃ x, keyL.getD i 0 = x := ⟨_, rfl⟩
      have i1 := run_str_at (P := Tryd.prog) keyS 9 Tryd.underlying9 .i64 (i : Int) i rfl (by show i < 39; exact hlt) x hx.symm
      have hsz : keyS.size = 39 := rfl
      have HS := Lib.hid hsz
      clear hsz
      by_cases hxc : x = c
      · have HI := Lib.hid (index_at keyL c i (by show i < 39; exact hlt) (by rw [hx, hxc]) hk.out)
        have he : ((x.toNat : Int) == (c.toNat : Int)) = true := by rw [hxc]; simp
        clear hx hxc hk
        go_wp2_with fail
        refine (letters_any _).mono ?_
        rintro e w' ⟨rfl, rfl⟩
        go_wp2_with fail
        refine (letters_any _).mono ?_
        rintro e w' ⟨rfl, rfl⟩
        go_wp2_with fail
        go_ret
        exact ⟨by rw [HI.out]; rfl, rfl⟩
      · have he : ((x.toNat : Int) == (c.toNat : Int)) = false := by
          rw [beq_eq_false_iff_ne]; intro h; exact hxc (UInt8.toNat_inj.1 (by omega))
        have HK : Hid (∀ j, j < i + 1 → keyL.getD j 0 ≠ c) := by
          intro j hj
          by_cases h : j < i
          · exact hk.out j h
          · obtain rfl : j = i := by omega
            rw [hx]; exact hxc
        clear hx hxc hk
        go_wp2_with fail
        refine (letters_any _).mono ?_
        rintro e w' ⟨rfl, rfl⟩
        go_wp2_with fail
        refine (letters_any _).mono ?_
        rintro e w' ⟨rfl, rfl⟩
        go_wp2_with fail
        go_round
        case rel => exact ⟨i + 1, by omega, by go_num, HK⟩
        case measure => simp [intOf]; omega
    · obtain rfl : i = 39 := by omega
      have HI := Lib.hid (index_out (l := keyL) (c := c) (fun j hj => hk.out j hj))
      clear hk
      go_wp2_with fail
      refine (letters_any _).mono ?_
      rintro e w' ⟨rfl, rfl⟩
      go_wp2_with fail
      go_ret
      exact ⟨by rw [HI.out]; rfl, rfl⟩

set_option maxHeartbeats 1000000 in
theorem rkcheck_any (s : ByteArray) (hz : s.size ≤ 1099511627776) (w : World) :
    Calls Tryd.prog 13 #[.string s] w fun e w' => e = .returned (.int .i64 (keyV s.data.toList)) ∧ w = w' := by
  have hlen : s.data.toList.length = s.size := str_len s
  by_cases h0 : s.size = 0
  · have e1 : s.toList.isEmpty = true := isEmpty_true h0
    have HB := Lib.hid (keyV_empty (l := s.data.toList) (by omega))
    clear hlen h0
    go_enter Tryd.func13, Tryd.ntmps13
    go_wp2_with fail
    go_ret
    exact ⟨by rw [HB.out]; rfl, rfl⟩
  · have e1 : s.toList.isEmpty = false := by
      rw [ByteArray.toList_eq, List.isEmpty_eq_false_iff]
      intro h
      rw [h] at hlen
      simp at hlen
      omega
    go_enter Tryd.func13, Tryd.ntmps13
    go_wp2_with fail
    go_loop [3] (fun vi => ∃ i : Nat, i ≤ s.size ∧ vi = .int .i64 i ∧ Hid (∀ j, j < i → isKey (s.data.toList.getD j 0) = true)) (fun vi => s.size - (intOf vi).toNat)
    case atStart => exact ⟨0, Nat.zero_le _, rfl, fun j hj => absurd hj (Nat.not_lt_zero _)⟩
    case round =>
      obtain ⟨i, hi, rfl, hk⟩ := hrel
      by_cases hlt : i < s.size
      · obtain ⟨c, hc⟩ : ∃ c, s.data.toList.getD i 0 = c := ⟨_, rfl⟩
        have i1 := run_str_at (P := Tryd.prog) s 9 Tryd.underlying9 .i64 (i : Int) i rfl hlt c hc.symm
        obtain ⟨q, hq⟩ : ∃ q, Lib.indexByte keyL c = q := ⟨_, rfl⟩
        have HQ := Lib.hid hq
        by_cases hx : isKey c = true
        · have d1 : decide (q < 0) = false := by
            unfold isKey at hx
            rw [hq] at hx
            rw [decide_eq_true_iff] at hx
            rw [decide_eq_false_iff_not]; omega
          have HK : Hid (∀ j, j < i + 1 → isKey (s.data.toList.getD j 0) = true) := by
            intro j hj
            by_cases h : j < i
            · exact hk.out j h
            · obtain rfl : j = i := by omega
              rw [hc]; exact hx
          clear hc hx hk hq hlen
          go_wp2_with fail
          refine (place_any c _).mono ?_
          rw [HQ.out]
          rintro e w' ⟨rfl, rfl⟩
          go_wp2_with fail
          go_round
          case rel => exact ⟨i + 1, by omega, by go_num, HK⟩
          case measure => simp [intOf]; omega
        · have hx : isKey c = false := by simpa using hx
          have d1 : decide (q < 0) = true := by
            unfold isKey at hx
            rw [hq] at hx
            rw [decide_eq_false_iff_not] at hx
            rw [decide_eq_true_iff]; omega
          have HB := Lib.hid (keyV_bad (all_bad (l := s.data.toList) (p := isKey) i (by omega) (by rw [hc]; exact hx)))
          clear hc hx hk hq hlen
          go_wp2_with fail
          refine (place_any c _).mono ?_
          rw [HQ.out]
          rintro e w' ⟨rfl, rfl⟩
          go_wp2_with fail
          go_ret
          exact ⟨by rw [HB.out]; rfl, rfl⟩
      · obtain rfl : i = s.size := by omega
        have HA : Hid (s.data.toList.all isKey = true) := all_of fun j hj => hk.out j (by omega)
        clear hk
        by_cases h2 : 32 < s.size
        · have d1 : decide ((32 : Int) < (s.size : Int)) = true := by rw [decide_eq_true_iff]; omega
          have HB := Lib.hid (keyV_large HA.out (by omega))
          clear h2 hlt hlen h0
          go_wp2_with fail
          go_ret
          exact ⟨by rw [HB.out]; rfl, rfl⟩
        · have d1 : decide ((32 : Int) < (s.size : Int)) = false := by rw [decide_eq_false_iff_not]; omega
          have HB := Lib.hid (keyV_ok HA.out (by omega) (by omega))
          clear h2 hlt hlen h0
          go_wp2_with fail
          go_ret
          exact ⟨by rw [HB.out]; rfl, rfl⟩

set_option maxHeartbeats 1000000 in
theorem rkfits_any (s : ByteArray) (hz : s.size ≤ 1099511627776) (m : Int) (w : World) :
    Calls Tryd.prog 15 #[.string s, .int .i64 m] w fun e w' => e = .returned (.int .i64 (kfitsV s.data.toList m)) ∧ w = w' := by
  have hlen : s.data.toList.length = s.size := str_len s
  have HZ := Lib.hid hz
  by_cases h1 : m < 1 ∨ 32 < m
  · have HB : Hid (kfitsV s.data.toList m = 2) := by show _ = _; unfold kfitsV; rw [if_pos h1]
    have hd : decide (m < 1) = true ∨ (decide (m < 1) = false ∧ decide (32 < m) = true) := by
      by_cases h : m < 1
      · exact Or.inl (by rw [decide_eq_true_iff]; exact h)
      · exact Or.inr ⟨by rw [decide_eq_false_iff_not]; exact h, by rw [decide_eq_true_iff]; omega⟩
    clear h1 hlen
    rcases hd with d1 | ⟨d1, d2⟩
    all_goals
      go_enter Tryd.func15, Tryd.ntmps15
      go_wp2_with fail
      go_ret
      exact ⟨by rw [HB.out]; rfl, rfl⟩
  · have d1 : decide (m < 1) = false := by rw [decide_eq_false_iff_not]; omega
    have d2 : decide (32 < m) = false := by rw [decide_eq_false_iff_not]; omega
    by_cases hk : keyV s.data.toList = 0
    · have HK := Lib.hid hk
      by_cases h2 : m < (s.size : Int)
      · have HB : Hid (kfitsV s.data.toList m = 12) := by show _ = _; unfold kfitsV; rw [if_neg h1, if_pos hk, if_pos (by omega)]
        have d3 : decide (m < (s.size : Int)) = true := by rw [decide_eq_true_iff]; exact h2
        clear h1 h2 hk hlen
        go_enter Tryd.func15, Tryd.ntmps15
        go_wp2_with fail
        refine (rkcheck_any s HZ.out _).mono ?_
        rw [HK.out]
        rintro e w1 ⟨rfl, rfl⟩
        go_wp2_with fail
        go_ret
        exact ⟨by rw [HB.out]; rfl, rfl⟩
      · have HB : Hid (kfitsV s.data.toList m = 0) := by show _ = _; unfold kfitsV; rw [if_neg h1, if_pos hk, if_neg (by omega)]
        have d3 : decide (m < (s.size : Int)) = false := by rw [decide_eq_false_iff_not]; exact h2
        clear h1 h2 hk hlen
        go_enter Tryd.func15, Tryd.ntmps15
        go_wp2_with fail
        refine (rkcheck_any s HZ.out _).mono ?_
        rw [HK.out]
        rintro e w1 ⟨rfl, rfl⟩
        go_wp2_with fail
        go_ret
        exact ⟨by rw [HB.out]; rfl, rfl⟩
    · have HB : Hid (kfitsV s.data.toList m = keyV s.data.toList) := by show _ = _; unfold kfitsV; rw [if_neg h1, if_neg hk]
      obtain ⟨x, hx⟩ : ∃ x, keyV s.data.toList = x := ⟨_, rfl⟩
      have hx0 : (x == 0) = false := by rw [beq_eq_false_iff_ne, ← hx]; exact hk
      have HX := Lib.hid hx
      clear hk hx hlen h1
      go_enter Tryd.func15, Tryd.ntmps15
      go_wp2_with fail
      refine (rkcheck_any s HZ.out _).mono ?_
      rw [HX.out]
      rintro e w1 ⟨rfl, rfl⟩
      go_wp2_with fail
      go_ret
      exact ⟨by rw [HB.out, HX.out]; rfl, rfl⟩

set_option maxHeartbeats 1000000 in
theorem rkcommon_any (a b : ByteArray) (ha : a.size ≤ 1099511627776) (hb : b.size ≤ 1099511627776) (w : World) :
    Calls Tryd.prog 19 #[.string a, .string b] w fun e w' => e = .returned (.int .i64 (commonL a.data.toList b.data.toList : Int)) ∧ Below w.heap.size w w' := by
  have hla : a.data.toList.length = a.size := str_len a
  have hlb : b.data.toList.length = b.size := str_len b
  have HA := Lib.hid hla
  have HB := Lib.hid hlb
  clear hla hlb
  go_enter Tryd.func19, Tryd.ntmps19
  go_wp2_with fail
  go_loopw [5] (fun vi wr => ∃ i : Nat, i ≤ a.size ∧ i ≤ b.size ∧ vi = .int .i64 i ∧ Hid (∀ j, j < i → a.data.toList.getD j 0 = b.data.toList.getD j 0) ∧ Below w.heap.size w wr) (fun vi _ => a.size - (intOf vi).toNat)
  case atStart => exact ⟨0, Nat.zero_le _, Nat.zero_le _, rfl, fun j hj => absurd hj (Nat.not_lt_zero _), Below.refl _ _⟩
  case round =>
    obtain ⟨i, hi, hi2, rfl, hk, c1⟩ := hrel
    by_cases h1 : i < a.size
    · have d1 : decide ((i : Int) < (a.size : Int)) = true := by rw [decide_eq_true_iff]; omega
      by_cases h2 : i < b.size
      · have d2 : decide ((i : Int) < (b.size : Int)) = true := by rw [decide_eq_true_iff]; omega
        obtain ⟨x, hx⟩ : ∃ x, a.data.toList.getD i 0 = x := ⟨_, rfl⟩
        obtain ⟨y, hy⟩ : ∃ y, b.data.toList.getD i 0 = y := ⟨_, rfl⟩
        have i1 := run_str_at (P := Tryd.prog) a 9 Tryd.underlying9 .i64 (i : Int) i rfl (by omega) x hx.symm
        have i2 := run_str_at (P := Tryd.prog) b 9 Tryd.underlying9 .i64 (i : Int) i rfl (by omega) y hy.symm
        by_cases hxy : x = y
        · have hne : ((x.toNat : Int) == (y.toNat : Int)) = true := by rw [hxy]; simp
          have HK : Hid (∀ j, j < i + 1 → a.data.toList.getD j 0 = b.data.toList.getD j 0) := by
            intro j hj
            by_cases h : j < i
            · exact hk.out j h
            · obtain rfl : j = i := by omega
              rw [hx, hy, hxy]
          clear hx hy hxy hk
          go_wp2_with fail
          go_quiet (fail)
          have c2 := c1.trans ((below_drewN wr nq).mono c1.size)
          generalize wr.drewN nq = w2 at *
          go_wp2_with fail
          go_roundw
          case rel => exact ⟨i + 1, by omega, by omega, by go_num, HK, c2⟩
          case measure => simp [intOf]; omega
        · have hne : ((x.toNat : Int) == (y.toNat : Int)) = false := by
            rw [beq_eq_false_iff_ne]; intro h; exact hxy (UInt8.toNat_inj.1 (by omega))
          have HC := Lib.hid (common_is a.data.toList b.data.toList i (by have := HA.out; omega) (by have := HB.out; omega) hk.out (Or.inr (Or.inr (by rw [hx, hy]; exact hxy))))
          clear hx hy hxy hk
          go_wp2_with fail
          go_quiet (fail)
          have c2 := c1.trans ((below_drewN wr nq).mono c1.size)
          generalize wr.drewN nq = w2 at *
          go_wp2_with fail
          go_ret
          exact ⟨by rw [HC.out]; rfl, c2⟩
      · have d2 : decide ((i : Int) < (b.size : Int)) = false := by rw [decide_eq_false_iff_not]; omega
        have d2n : decide (i < b.size) = false := by rw [decide_eq_false_iff_not]; omega
        have HC := Lib.hid (common_is a.data.toList b.data.toList i (by have := HA.out; omega) (by have := HB.out; omega) hk.out (Or.inr (Or.inl (by have := HB.out; omega))))
        clear hk h2
        go_wp2_with fail
        go_quiet (fail)
        have c2 := c1.trans ((below_drewN wr nq).mono c1.size)
        generalize wr.drewN nq = w2 at *
        go_wp2_with fail
        go_ret
        exact ⟨by rw [HC.out]; rfl, c2⟩
    · have d1 : decide ((i : Int) < (a.size : Int)) = false := by rw [decide_eq_false_iff_not]; omega
      have d1n : decide (i < a.size) = false := by rw [decide_eq_false_iff_not]; omega
      have HC := Lib.hid (common_is a.data.toList b.data.toList i (by have := HA.out; omega) (by have := HB.out; omega) hk.out (Or.inl (by have := HA.out; omega)))
      clear hk h1
      go_wp2_with fail
      go_quiet (fail)
      have c2 := c1.trans ((below_drewN wr nq).mono c1.size)
      generalize wr.drewN nq = w2 at *
      go_wp2_with fail
      go_ret
      exact ⟨by rw [HC.out]; rfl, c2⟩

theorem rkname_any (n : Int) (w : World) :
    Calls Tryd.prog 23 #[.int .i64 n] w fun e w' => e = .returned (.tuple #[.string ⟨(nameV n).1.toArray⟩, .int .i64 (nameV n).2]) ∧ w = w' := by
  by_cases h : n < 0 ∨ 1000000 ≤ n
  · have HB : Hid (nameV n = ([], 3)) := by show _ = _; unfold nameV; rw [if_pos h]
    have hd : decide (n < 0) = true ∨ (decide (n < 0) = false ∧ decide (999999 < n) = true) := by
      by_cases h : n < 0
      · exact Or.inl (by rw [decide_eq_true_iff]; exact h)
      · exact Or.inr ⟨by rw [decide_eq_false_iff_not]; exact h, by rw [decide_eq_true_iff]; omega⟩
    clear h
    rcases hd with d1 | ⟨d1, d2⟩
    all_goals
      go_enter Tryd.func23, Tryd.ntmps23
      go_wp2_with fail
      go_ret2
      exact ⟨by rw [HB.out]; rfl, rfl⟩
  · have d1 : decide (n < 0) = false := by rw [decide_eq_false_iff_not]; omega
    have d2 : decide (999999 < n) = false := by rw [decide_eq_false_iff_not]; omega
    obtain ⟨u, rfl⟩ : ∃ u : Nat, n = (u : Int) := ⟨n.toNat, by omega⟩
    have hu : u < 1000000 := by omega
    have HB : Hid (nameV (u : Int) = (107 :: Lib.decDigits u, 0)) := by show _ = _; unfold nameV; rw [if_neg h, Int.toNat_natCast]
    have w1 : IntKind.u64.wrap (u : Int) = (u : Int) := wrap_u64 (m := u) rfl (by have : (256 : Nat) ^ 8 = 18446744073709551616 := by decide
                                                                                  omega)
    have hln : (Lib.decDigits u).length ≤ 20 := by
      by_cases h0 : u = 0
      · subst h0; rw [Lib.decDigits, dif_pos (by decide)]; decide
      · rw [Lib.decDigits_length]
        have := Lib.numDigits_eq u (by omega) (by omega)
        split at this <;> omega
    clear h
    obtain ⟨D, hD⟩ : ∃ D : List UInt8, Lib.decDigits u = D := ⟨_, rfl⟩
    have HD := Lib.hid hD
    rw [hD] at hln HB
    clear hD
    have hsz : (⟨D.toArray⟩ : ByteArray).size ≤ 20 := by rw [size_list]; exact hln
    have hst : (⟨#[107]⟩ ++ ⟨D.toArray⟩ : ByteArray) = ⟨(107 :: D).toArray⟩ := str_append [107] D
    have HST := Lib.hid hst
    have hs1 : (⟨#[107]⟩ : ByteArray).size = 1 := rfl
    clear hst
    go_enter Tryd.func23, Tryd.ntmps23
    go_wp2_with fail
    refine (keeps (rdigits01_any (u + 1) u _ (Nat.lt_succ_self u) (by omega))).mono ?_
    rw [HD.out]
    rintro e w1 ⟨rfl, rfl⟩
    go_wp2_with fail
    go_ret2
    exact ⟨by rw [HB.out, ← HST.out]; rfl, rfl⟩
end Go.Proofs.YthmbcjladgnigaaDoor
