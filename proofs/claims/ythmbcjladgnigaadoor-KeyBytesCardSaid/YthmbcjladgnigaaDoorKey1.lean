/-
  What key's Check, Fits, Order, Common and Name compute, and what the reference's do.
  Conditions: at most 2^40 bytes.
-/
import Derived.Test.YthmbcjladgnigaaDoorRune
import Derived.Test.YthmbcjladgnigaaDoorKeyP
import Derived.Test.YthmbcjladgnigaaDoorTab
import Derived.Test.YthmbcjladgnigaaDoorDigits
import Derived.Test.YthmbcjladgnigaaDoorDigRef
set_option linter.unusedVariables false
namespace Go.Proofs.YthmbcjladgnigaaDoor
open Go Go.RowKit

theorem below_drewN (w : World) (k : Nat) : Below w.heap.size w (w.drewN k) := ⟨rfl, rfl, rfl, Nat.le_refl _, fun _ _ => rfl⟩
/-- The key with a number. -/
def nameV (n : Int) : List UInt8 × Int := if n < 0 ∨ 1000000 ≤ n then ([], 3) else (107 :: Lib.decDigits n.toNat, 0)
theorem keyS_ascii : allAscii keyS.data.toList := by
  rw [keyS_list]
  intro b hb
  revert b
  decide
theorem contains_at (r : Int) (h0 : 0 ≤ r) (h1 : r < 128) (x : Bool) (hx : isKey r.toNat.toUInt8 = x) (w : World) :
    Calls Tryd.prog 28 #[.string keyS, .int .i32 r] w fun e w' => e = .returned (.bool x) ∧ w = w' := by
  have h := Tryd.strings_ContainsRune_ascii keyS r w h0 h1
  rw [keyS_list] at h
  have e : decide (0 ≤ Lib.indexByte keyL r.toNat.toUInt8) = x := hx
  rw [e] at h
  exact keeps h

set_option maxHeartbeats 2000000 in
theorem kcheck_any (s : ByteArray) (hz : s.size ≤ 1099511627776) (w : World) :
    Calls Tryd.prog 12 #[.string s] w fun e w' => e = .returned (.int .i64 (keyV s.data.toList)) ∧ Below w.heap.size w w' := by
  have hlen : s.data.toList.length = s.size := str_len s
  go_enter Tryd.func12, Tryd.ntmps12
  go_wp2_with fail
  go_loopw [4] (fun _ wr => ∃ pos : Nat, pos ≤ s.size ∧ wr = w.iter s pos ∧ Hid (∀ j, j < pos → isKey (s.data.toList.getD j 0) = true)) (fun _ wr => s.size - wr.iterPos w.heap.size)
  case atStart => exact ⟨0, Nat.zero_le _, rfl, fun j hj => absurd hj (Nat.not_lt_zero _)⟩
  case round =>
    obtain ⟨pos, hp, rfl, hk⟩ := hrel
    by_cases hlt : pos < s.size
    · obtain ⟨c, hc⟩ : ∃ c, s.data.toList.getD pos 0 = c := ⟨_, rfl⟩
      have hcs : s[pos]'hlt = c := by rw [← hc, str_getD s pos hlt]
      by_cases ha : c.toNat < 128
      · have hnx := fun ty => run_next_ascii (P := Tryd.prog) w s pos ty hlt (by rw [hcs]; exact ha)
        rw [hcs] at hnx
        have hct : ((c.toNat : Int)).toNat.toUInt8 = c := by simp
        rcases hx : isKey c with _ | _
        · have HB := Lib.hid (keyV_bad (all_bad (l := s.data.toList) (p := isKey) pos (by omega) (by rw [hc]; exact hx)))
          have HX : Hid (isKey ((c.toNat : Int)).toNat.toUInt8 = false) := by show _ = _; rw [hct]; exact hx
          clear hc hcs hx hct hk
          go_wp2_with fail
          refine (contains_at _ (by omega) (by omega) _ HX.out _).mono ?_
          rintro e w' ⟨rfl, rfl⟩
          go_wp2_with fail
          go_ret
          exact ⟨by rw [HB.out]; rfl, iter_below _ _ _⟩
        · have HX : Hid (isKey ((c.toNat : Int)).toNat.toUInt8 = true) := by show _ = _; rw [hct]; exact hx
          have HK : Hid (∀ j, j < pos + 1 → isKey (s.data.toList.getD j 0) = true) := by
            intro j hj
            by_cases h : j < pos
            · exact hk.out j h
            · obtain rfl : j = pos := by omega
              rw [hc]; exact hx
          clear hc hcs hx hct hk
          go_wp2_with fail
          refine (contains_at _ (by omega) (by omega) _ HX.out _).mono ?_
          rintro e w' ⟨rfl, rfl⟩
          go_wp2_with fail
          go_roundw
          case rel => exact ⟨pos + 1, by omega, rfl, HK⟩
          case measure => simp; omega
      · have hnx := fun ty => run_next_any (P := Tryd.prog) w s pos ty hlt
        have hd := decode_high s pos hlt (by rw [hcs]; omega)
        have hx : isKey c = false := by
          rcases h : isKey c with _ | _
          · rfl
          · exact absurd (isKey_facts h).1 ha
        have HB := Lib.hid (keyV_bad (all_bad (l := s.data.toList) (p := isKey) pos (by omega) (by rw [hc]; exact hx)))
        have hd2 := hd.1
        clear hc hcs hx hk
        obtain ⟨p2, hp2⟩ : ∃ p2, Utf8.decode s pos = p2 := ⟨_, rfl⟩
        obtain ⟨r, step⟩ := p2
        rw [hp2] at hnx hd2
        clear hp2 hd
        simp only at hnx hd2
        have HR : Hid (128 ≤ r) := hd2
        clear hd2
        go_wp2_with fail
        refine (containsRune_high keyS (r : Int) (by have := HR.out; omega) keyS_ascii (by decide) (by decide) _).mono ?_
        rintro e w' ⟨rfl, b1⟩
        have c1 := (iter_below w s (pos + step)).trans (b1.mono (by simp [World.iter]))
        clear b1
        go_wp2_with fail
        go_ret
        exact ⟨by rw [HB.out]; rfl, c1⟩
    · obtain rfl : pos = s.size := by omega
      have hnx := fun ty => run_next_end (P := Tryd.prog) w s s.size ty hlt
      have HA : Hid (s.data.toList.all isKey = true) := all_of fun j hj => hk.out j (by omega)
      clear hk
      by_cases h0 : s.size = 0
      · have e1 : s.toList.isEmpty = true := by rw [ByteArray.toList_eq]; simpa using (List.eq_nil_of_length_eq_zero (by omega : s.data.toList.length = 0))
        have HB := Lib.hid (keyV_empty (l := s.data.toList) (by omega))
        clear hlt hp hlen h0
        go_wp2_with fail
        go_ret
        exact ⟨by rw [HB.out]; rfl, iter_below _ _ _⟩
      · have e1 : s.toList.isEmpty = false := by
          rw [ByteArray.toList_eq, List.isEmpty_eq_false_iff]
          intro h
          rw [h] at hlen
          simp at hlen
          omega
        by_cases h2 : 32 < s.size
        · have d1 : decide ((32 : Int) < (s.size : Int)) = true := by rw [decide_eq_true_iff]; omega
          have HB := Lib.hid (keyV_large HA.out (by omega))
          clear h2 hlt hlen h0
          go_wp2_with fail
          go_ret
          exact ⟨by rw [HB.out]; rfl, iter_below _ _ _⟩
        · have d1 : decide ((32 : Int) < (s.size : Int)) = false := by rw [decide_eq_false_iff_not]; omega
          have HB := Lib.hid (keyV_ok HA.out (by omega) (by omega))
          clear h2 hlt hlen h0
          go_wp2_with fail
          go_ret
          exact ⟨by rw [HB.out]; rfl, iter_below _ _ _⟩

set_option maxHeartbeats 1000000 in
theorem kfits_any (s : ByteArray) (hz : s.size ≤ 1099511627776) (m : Int) (w : World) :
    Calls Tryd.prog 14 #[.string s, .int .i64 m] w fun e w' => e = .returned (.int .i64 (kfitsV s.data.toList m)) ∧ Below w.heap.size w w' := by
  have hlen : s.data.toList.length = s.size := str_len s
  have HZ := Lib.hid hz
  by_cases h1 : m < 1 ∨ 32 < m
  · have HB : Hid (kfitsV s.data.toList m = 2) := by show _ = _; unfold kfitsV; rw [if_pos h1]
    have hd : decide (m < 1) = true ∨ (decide (m < 1) = false ∧ decide (32 < m) = true) := by
      by_cases h : m < 1
      · exact Or.inl (by rw [decide_eq_true_iff]; exact h)
      · exact Or.inr ⟨by rw [decide_eq_false_iff_not]; exact h, by rw [decide_eq_true_iff]; omega⟩
    clear h1 hlen
    rcases hd with d1 | ⟨d1, d2⟩
    all_goals
      go_enter Tryd.func14, Tryd.ntmps14
      go_wp2_with fail
      go_ret
      exact ⟨by rw [HB.out]; rfl, Below.refl _ _⟩
  · have d1 : decide (m < 1) = false := by rw [decide_eq_false_iff_not]; omega
    have d2 : decide (32 < m) = false := by rw [decide_eq_false_iff_not]; omega
    by_cases hk : keyV s.data.toList = 0
    · have HK := Lib.hid hk
      by_cases h2 : m < (s.size : Int)
      · have HB : Hid (kfitsV s.data.toList m = 12) := by show _ = _; unfold kfitsV; rw [if_neg h1, if_pos hk, if_pos (by omega)]
        have d3 : decide (m < (s.size : Int)) = true := by rw [decide_eq_true_iff]; exact h2
        clear h1 h2 hk hlen
        go_enter Tryd.func14, Tryd.ntmps14
        go_wp2_with fail
        refine (kcheck_any s HZ.out _).mono ?_
        rw [HK.out]
        rintro e w1 ⟨rfl, b1⟩
        go_wp2_with fail
        go_ret
        exact ⟨by rw [HB.out]; rfl, b1⟩
      · have HB : Hid (kfitsV s.data.toList m = 0) := by show _ = _; unfold kfitsV; rw [if_neg h1, if_pos hk, if_neg (by omega)]
        have d3 : decide (m < (s.size : Int)) = false := by rw [decide_eq_false_iff_not]; exact h2
        clear h1 h2 hk hlen
        go_enter Tryd.func14, Tryd.ntmps14
        go_wp2_with fail
        refine (kcheck_any s HZ.out _).mono ?_
        rw [HK.out]
        rintro e w1 ⟨rfl, b1⟩
        go_wp2_with fail
        go_ret
        exact ⟨by rw [HB.out]; rfl, b1⟩
    · have HB : Hid (kfitsV s.data.toList m = keyV s.data.toList) := by show _ = _; unfold kfitsV; rw [if_neg h1, if_neg hk]
      obtain ⟨x, hx⟩ : ∃ x, keyV s.data.toList = x := ⟨_, rfl⟩
      have hx0 : (x != 0) = true := by rw [bne_iff_ne, ← hx]; exact hk
      have HX := Lib.hid hx
      clear hk hx hlen h1
      go_enter Tryd.func14, Tryd.ntmps14
      go_wp2_with fail
      refine (kcheck_any s HZ.out _).mono ?_
      rw [HX.out]
      rintro e w1 ⟨rfl, b1⟩
      go_wp2_with fail
      go_ret
      exact ⟨by rw [HB.out, HX.out]; rfl, b1⟩

theorem korder_any (a b : ByteArray) (w : World) :
    Calls Tryd.prog 16 #[.string a, .string b] w fun e w' => e = .returned (.int .i64 (Lib.compareBytes a.data.toList b.data.toList)) ∧ w = w' := by
  go_enter Tryd.func16, Tryd.ntmps16
  go_wp2_with fail
  refine (keeps (Tryd.strings_Compare a b _)).mono ?_
  rintro e w1 ⟨rfl, rfl⟩
  go_wp2_with fail
  go_ret
  exact ⟨rfl, rfl⟩

set_option maxHeartbeats 1000000 in
theorem kcommon_any (a b : ByteArray) (ha : a.size ≤ 1099511627776) (hb : b.size ≤ 1099511627776) (w : World) :
    Calls Tryd.prog 18 #[.string a, .string b] w fun e w' => e = .returned (.int .i64 (commonL a.data.toList b.data.toList : Int)) ∧ Below w.heap.size w w' := by
  have hla : a.data.toList.length = a.size := str_len a
  have hlb : b.data.toList.length = b.size := str_len b
  have HA := Lib.hid hla
  have HB := Lib.hid hlb
  obtain ⟨m, hm⟩ : ∃ m : Nat, min (a.size : Int) (b.size : Int) = (m : Int) := ⟨min a.size b.size, by omega⟩
  have hm1 : m ≤ a.size := by omega
  have hm2 : m ≤ b.size := by omega
  have HM : Hid (m = a.size ∨ m = b.size) := by show m = a.size ∨ m = b.size; omega
  clear hla hlb
  go_enter Tryd.func18, Tryd.ntmps18
  go_wp2_with fail
  go_loopw [13] (fun vi wr => ∃ i : Nat, i ≤ m ∧ vi = .int .i64 i ∧ Hid (∀ j, j < i → a.data.toList.getD j 0 = b.data.toList.getD j 0) ∧ Below w.heap.size w wr) (fun vi _ => m - (intOf vi).toNat)
  case atStart => exact ⟨0, Nat.zero_le _, rfl, fun j hj => absurd hj (Nat.not_lt_zero _), Below.refl _ _⟩
  case round =>
    obtain ⟨i, hi, rfl, hk, c1⟩ := hrel
    by_cases hlt : i < m
    · obtain ⟨x, hx⟩ : ∃ x, a.data.toList.getD i 0 = x := ⟨_, rfl⟩
      obtain ⟨y, hy⟩ : ∃ y, b.data.toList.getD i 0 = y := ⟨_, rfl⟩
      have i1 := run_str_at (P := Tryd.prog) a 9 Tryd.underlying9 .i64 (i : Int) i rfl (by omega) x hx.symm
      have i2 := run_str_at (P := Tryd.prog) b 9 Tryd.underlying9 .i64 (i : Int) i rfl (by omega) y hy.symm
      by_cases hxy : x = y
      · have hne : ((x.toNat : Int) != (y.toNat : Int)) = false := by rw [hxy]; simp
        have HK : Hid (∀ j, j < i + 1 → a.data.toList.getD j 0 = b.data.toList.getD j 0) := by
          intro j hj
          by_cases h : j < i
          · exact hk.out j h
          · obtain rfl : j = i := by omega
            rw [hx, hy, hxy]
        clear hx hy hxy hk
        go_wp2_with fail
        go_quiet (fail)
        have c2 := c1.trans ((below_drewN wr nq).mono c1.size)
        generalize wr.drewN nq = w2 at *
        go_wp2_with fail
        go_roundw
        case rel => exact ⟨i + 1, by omega, by go_num, HK, c2⟩
        case measure => simp [intOf]; omega
      · have hne : ((x.toNat : Int) != (y.toNat : Int)) = true := by
          rw [bne_iff_ne]; intro h; exact hxy (UInt8.toNat_inj.1 (by omega))
        have HC := Lib.hid (common_is a.data.toList b.data.toList i (by have := HA.out; omega) (by have := HB.out; omega) hk.out (Or.inr (Or.inr (by rw [hx, hy]; exact hxy))))
        clear hx hy hxy hk
        go_wp2_with fail
        go_quiet (fail)
        have c2 := c1.trans ((below_drewN wr nq).mono c1.size)
        generalize wr.drewN nq = w2 at *
        go_wp2_with fail
        go_ret
        exact ⟨by rw [HC.out]; rfl, c2⟩
    · obtain rfl : i = m := by omega
      have HC := Lib.hid (common_is a.data.toList b.data.toList i (by have := HA.out; omega) (by have := HB.out; omega) hk.out (by
        rcases HM.out with h | h
        · exact Or.inl (by have := HA.out; omega)
        · exact Or.inr (Or.inl (by have := HB.out; omega))))
      clear hk
      go_wp2_with fail
      go_ret
      exact ⟨by rw [HC.out]; rfl, c1⟩

theorem kname_any (n : Int) (w : World) (ht : Tab w) :
    Calls Tryd.prog 22 #[.int .i64 n] w fun e w' => e = .returned (.tuple #[.string ⟨(nameV n).1.toArray⟩, .int .i64 (nameV n).2]) ∧ Below w.heap.size w w' := by
  by_cases h : n < 0 ∨ 1000000 ≤ n
  · have HB : Hid (nameV n = ([], 3)) := by show _ = _; unfold nameV; rw [if_pos h]
    have hd : decide (n < 0) = true ∨ (decide (n < 0) = false ∧ decide (1000000 ≤ n) = true) := by
      by_cases h : n < 0
      · exact Or.inl (by rw [decide_eq_true_iff]; exact h)
      · exact Or.inr ⟨by rw [decide_eq_false_iff_not]; exact h, by rw [decide_eq_true_iff]; omega⟩
    clear h
    rcases hd with d1 | ⟨d1, d2⟩
    all_goals
      go_enter Tryd.func22, Tryd.ntmps22
      go_wp2_with fail
      go_ret2
      exact ⟨by rw [HB.out]; rfl, Below.refl _ _⟩
  · have d1 : decide (n < 0) = false := by rw [decide_eq_false_iff_not]; omega
    have d2 : decide (1000000 ≤ n) = false := by rw [decide_eq_false_iff_not]; omega
    obtain ⟨u, rfl⟩ : ∃ u : Nat, n = (u : Int) := ⟨n.toNat, by omega⟩
    have hu : u < 1000000 := by omega
    have HB : Hid (nameV (u : Int) = (107 :: Lib.decDigits u, 0)) := by show _ = _; unfold nameV; rw [if_neg h, Int.toNat_natCast]
    have w1 : IntKind.u64.wrap (u : Int) = (u : Int) := wrap_u64 (m := u) rfl (by have : (256 : Nat) ^ 8 = 18446744073709551616 := by decide
                                                                                  omega)
    have hln : (Lib.decDigits u).length ≤ 20 := by
      by_cases h0 : u = 0
      · subst h0; rw [Lib.decDigits, dif_pos (by decide)]; decide
      · rw [Lib.decDigits_length]
        have := Lib.numDigits_eq u (by omega) (by omega)
        split at this <;> omega
    have HT := Lib.hid ht
    clear h ht
    obtain ⟨D, hD⟩ : ∃ D : List UInt8, Lib.decDigits u = D := ⟨_, rfl⟩
    have HD := Lib.hid hD
    rw [hD] at hln HB
    clear hD
    have hsz : (⟨D.toArray⟩ : ByteArray).size ≤ 20 := by rw [size_list]; exact hln
    have hst : (⟨#[107]⟩ ++ ⟨D.toArray⟩ : ByteArray) = ⟨(107 :: D).toArray⟩ := str_append [107] D
    have HST := Lib.hid hst
    have hs1 : (⟨#[107]⟩ : ByteArray).size = 1 := rfl
    clear hst
    go_enter Tryd.func22, Tryd.ntmps22
    go_wp2_with fail
    refine (digits_any u (by omega) _ HT.out).mono ?_
    rw [HD.out]
    rintro e w1 ⟨rfl, b1⟩
    go_wp2_with fail
    go_ret2
    exact ⟨by rw [HB.out, ← HST.out]; rfl, b1⟩
end Go.Proofs.YthmbcjladgnigaaDoor
