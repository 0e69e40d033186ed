/-
  The walk of KeyNames.
  Conditions: the library's table lies in the world.
-/
import Derived.Test.YthmbcjladgnigaaDoorWalks05b
import Derived.Test.YthmbcjladgnigaaDoorDig01b
set_option linter.unusedVariables false
namespace Go.Proofs.YthmbcjladgnigaaDoor
open Go Go.RowKit

theorem cmp_less : ∀ (a b : List UInt8), decide (Lib.compareBytes a b < 0) = Op.bytesLess a b
  | [], [] => rfl
  | [], _ :: _ => rfl
  | _ :: _, [] => rfl
  | x :: r, y :: t => by
    have ih := cmp_less r t
    rw [cmp_cons]
    by_cases h1 : x.toNat < y.toNat
    · rw [if_pos h1]
      have : x < y := by rw [u8_lt]; exact h1
      simp [Op.bytesLess, this]
    · by_cases h2 : y.toNat < x.toNat
      · rw [if_neg h1, if_pos h2]
        have g1 : ¬ x < y := by rw [u8_lt]; exact h1
        have g3 : x ≠ y := fun h => by rw [h] at h2; omega
        simp [Op.bytesLess, g1, g3]
      · rw [if_neg h1, if_neg h2, ih]
        have g3 : x = y := UInt8.toNat_inj.1 (by omega)
        subst g3
        have g1 : ¬ x < x := by rw [u8_lt]; omega
        simp [Op.bytesLess, g1]
theorem dig_key : ∀ n : Nat, n < 256 → isDig (UInt8.ofNat n) = true → isKey (UInt8.ofNat n) = true := by decide +kernel
theorem dec_len : ∀ (k u : Nat), 0 < k → u < 10 ^ k → (Lib.decDigits u).length ≤ k
  | 0, _, h, _ => absurd h (Nat.lt_irrefl _)
  | k + 1, u, _, h => by
    by_cases h10 : u < 10
    · rw [Lib.decDigits, dif_pos h10]; simp
    · rw [dec_big u h10, List.length_append, List.length_singleton]
      have hk : 0 < k := by
        rcases Nat.eq_zero_or_pos k with h0 | h0
        · subst h0; simp at h; omega
        · exact h0
      have := dec_len k (u / 10) hk (by rw [Nat.pow_succ] at h; omega)
      omega
theorem name_key {u : Nat} (h : u < 1000000) : keyV (107 :: Lib.decDigits u) = 0 ∧ (Lib.decDigits u).length ≤ 7 := by
  have hl : (Lib.decDigits u).length ≤ 7 := dec_len 7 u (by decide) (by omega)
  refine ⟨keyV_ok ?_ (by simp) (by simp; omega), hl⟩
  rw [List.all_cons, Bool.and_eq_true, List.all_eq_true]
  refine ⟨by decide +kernel, fun x hx => ?_⟩
  have hd := dec_allDig u
  unfold allDig at hd
  rw [List.all_eq_true] at hd
  have := dig_key x.toNat x.toNat_lt
  rw [UInt8.ofNat_toNat] at this
  exact this (hd x hx)
theorem itoa_is (u : Nat) (hu : u < 1000000) (D : ByteArray) (hD : D.data.toList = Lib.decDigits u) (w : World) (ht : Tab w) :
    Calls Tryd.prog 27 #[.int .i64 (u : Int)] w fun e w' => e = .returned (.string D) ∧ Below w.heap.size w w' := by
  have h := itoa_any (u : Int) (by omega) (by omega) w ht
  rw [itoa_nat, ← hD, str_back] at h
  exact h

set_option maxRecDepth 100000 in
set_option maxHeartbeats 4000000 in
theorem walkKeyNames (a : Int) (ha : (Lit.int .u32 a).wf = true) (b : Int) (hb : (Lit.int .u32 b).wf = true) (w : World) (ht : Tab w) :
    Calls Tryd.prog 10 #[.int .u32 a, .int .u32 b] w fun e w' => e = .returned (.bool true) ∧ Below w.heap.size w w' := by
  have ha2 : 0 ≤ a ∧ a ≤ 4294967295 := by have e1 : IntKind.u32.min = 0 := rfl; have e2 : IntKind.u32.max = 4294967295 := rfl; simp [Lit.wf, e1, e2] at ha; omega
  have hb2 : 0 ≤ b ∧ b ≤ 4294967295 := by have e1 : IntKind.u32.min = 0 := rfl; have e2 : IntKind.u32.max = 4294967295 := rfl; simp [Lit.wf, e1, e2] at hb; omega
  obtain ⟨M, hM⟩ : ∃ M : Nat, (M : Int) = a % 1000000 := ⟨(a % 1000000).toNat, by omega⟩
  obtain ⟨N, hN⟩ : ∃ N : Nat, (N : Int) = b % 1000000 := ⟨(b % 1000000).toNat, by omega⟩
  have hM2 : M < 1000000 := by omega
  have hN2 : N < 1000000 := by omega
  have q1 : a.tmod 1000000 = (M : Int) := by rw [Int.tmod_eq_emod_of_nonneg (by omega)]; omega
  have q2 : b.tmod 1000000 = (N : Int) := by rw [Int.tmod_eq_emod_of_nonneg (by omega)]; omega
  have q3 : IntKind.u32.wrap (M : Int) = (M : Int) := by rw [IntKind.wrap_u32]; omega
  have q4 : IntKind.u32.wrap (N : Int) = (N : Int) := by rw [IntKind.wrap_u32]; omega
  have HT := Lib.hid ht
  clear ht ha hb ha2 hb2 hM hN
  obtain ⟨kM, lM⟩ := name_key hM2
  obtain ⟨kN, lN⟩ := name_key hN2
  have hnM : nameV (M : Int) = (107 :: Lib.decDigits M, 0) := by unfold nameV; rw [if_neg (by omega), Int.toNat_natCast]
  have hnN : nameV (N : Int) = (107 :: Lib.decDigits N, 0) := by unfold nameV; rw [if_neg (by omega), Int.toNat_natCast]
  obtain ⟨D, hD⟩ : ∃ D : ByteArray, D.data.toList = Lib.decDigits M := ⟨⟨(Lib.decDigits M).toArray⟩, rfl⟩
  obtain ⟨S, hS⟩ : ∃ S : ByteArray, S.data.toList = 107 :: Lib.decDigits M := ⟨⟨(107 :: Lib.decDigits M).toArray⟩, rfl⟩
  obtain ⟨T, hT⟩ : ∃ T : ByteArray, T.data.toList = 107 :: Lib.decDigits N := ⟨⟨(107 :: Lib.decDigits N).toArray⟩, rfl⟩
  have HS : Hid (nameV (M : Int) = (S.data.toList, 0)) := by show _ = _; rw [hnM, hS]
  have HT2 : Hid (nameV (N : Int) = (T.data.toList, 0)) := by show _ = _; rw [hnN, hT]
  have HD := Lib.hid hD
  have HK : Hid (keyV S.data.toList = 0) := by show _ = _; rw [hS]; exact kM
  have hcat : (⟨#[107]⟩ ++ D : ByteArray) = S := by
    apply ByteArray.ext
    apply Array.ext'
    rw [hS]
    simp [hD]
  have hDs : D.size ≤ 7 := by rw [← str_len, hD]; exact lM
  have hSs : S.size = (Lib.decDigits M).length + 1 := by rw [← str_len, hS]; rfl
  have hTs : T.size = (Lib.decDigits N).length + 1 := by rw [← str_len, hT]; rfl
  have HSz : Hid (S.size ≤ 1099511627776) := by show S.size ≤ _; omega
  have hone : (⟨#[107]⟩ : ByteArray).size = 1 := rfl
  obtain ⟨x, hx⟩ : ∃ x, Lib.compareBytes S.data.toList T.data.toList = x := ⟨_, rfl⟩
  have HX := Lib.hid hx
  have heq : S.data.toList = T.data.toList ↔ M = N := by
    rw [hS, hT]
    constructor
    · intro h
      have := congrArg dval (List.cons.inj h).2
      rwa [dval_dec, dval_dec] at this
    · intro h; rw [h]
  obtain ⟨E, hE⟩ : ∃ E : Bool, E = decide (M = N) := ⟨_, rfl⟩
  obtain ⟨e1, e2⟩ := str_beq S T E (by rw [heq, hE, decide_eq_true_iff])
  have e3 : ((M : Int) == (N : Int)) = E := by rw [hE, Bool.eq_iff_iff, beq_iff_eq, decide_eq_true_iff]; omega
  have e4 : (M == N) = E := by rw [hE, Bool.eq_iff_iff, beq_iff_eq, decide_eq_true_iff]
  have hl : (((S.size : Int) == (T.size : Int)) = false ∧ (S.size == T.size) = false) ∨ (((S.size : Int) == (T.size : Int)) = true ∧ (S.size == T.size) = true ∧ ∃ F : Bool, decide (x < 0) = F ∧ decide ((M : Int) < (N : Int)) = F ∧ decide (M < N) = F) := by
    by_cases h : S.size = T.size
    · refine Or.inr ⟨by rw [beq_iff_eq]; omega, by rw [beq_iff_eq]; exact h, decide (M < N), ?_, ?_, rfl⟩
      · have h1 := less_digits (Lib.decDigits M) (Lib.decDigits N) (by omega) (dec_allDig M) (dec_allDig N)
        rw [dval_dec, dval_dec] at h1
        rw [← h1, ← hx, hS, hT, ← cmp_less, cmp_cons, if_neg (Nat.lt_irrefl _), if_neg (Nat.lt_irrefl _)]
      · rw [Bool.eq_iff_iff, decide_eq_true_iff, decide_eq_true_iff]; omega
    · exact Or.inl ⟨by rw [beq_eq_false_iff_ne]; omega, by rw [beq_eq_false_iff_ne]; exact h⟩
  have c1 := Below.refl w.heap.size w
  clear kM kN lM lN hnM hnN hD hS hT hSs hTs hx heq hE
  rcases hl with ⟨g1, g2⟩ | ⟨g1, g2, F, g3, g4, g5⟩
  · rcases E with _ | _
    all_goals
      go_enter Tryd.func10, Tryd.ntmps10
      go_wp2_with fail
      refine (kname_is _ S 0 HS.out _ (HT.out.below c1)).mono ?_
      rintro e w101 ⟨rfl, b1⟩
      have c2 := c1.trans (b1.mono c1.size); clear c1 b1
      have c1 := c2; clear c2
      go_wp2_with fail
      refine (kname_is _ T 0 HT2.out _ (HT.out.below c1)).mono ?_
      rintro e w102 ⟨rfl, b1⟩
      have c2 := c1.trans (b1.mono c1.size); clear c1 b1
      have c1 := c2; clear c2
      go_wp2_with fail
      refine (kcheck_is S 0 HSz.out HK.out _).mono ?_
      rintro e w103 ⟨rfl, b1⟩
      have c2 := c1.trans (b1.mono c1.size); clear c1 b1
      have c1 := c2; clear c2
      go_wp2_with fail
      refine (itoa_is M hM2 D HD.out _ (HT.out.below c1)).mono ?_
      rintro e w104 ⟨rfl, b1⟩
      have c2 := c1.trans (b1.mono c1.size); clear c1 b1
      have c1 := c2; clear c2
      go_wp2_with fail
      refine (works_any _ (HT.out.below c1)).mono ?_
      rintro e w105 ⟨rfl, b1⟩
      have c2 := c1.trans (b1.mono c1.size); clear c1 b1
      have c1 := c2; clear c2
      go_wp2_with fail
      go_ret
      exact ⟨rfl, c1⟩
  · rcases E with _ | _ <;> rcases F with _ | _
    all_goals
      go_enter Tryd.func10, Tryd.ntmps10
      go_wp2_with fail
      refine (kname_is _ S 0 HS.out _ (HT.out.below c1)).mono ?_
      rintro e w106 ⟨rfl, b1⟩
      have c2 := c1.trans (b1.mono c1.size); clear c1 b1
      have c1 := c2; clear c2
      go_wp2_with fail
      refine (kname_is _ T 0 HT2.out _ (HT.out.below c1)).mono ?_
      rintro e w107 ⟨rfl, b1⟩
      have c2 := c1.trans (b1.mono c1.size); clear c1 b1
      have c1 := c2; clear c2
      go_wp2_with fail
      refine (kcheck_is S 0 HSz.out HK.out _).mono ?_
      rintro e w108 ⟨rfl, b1⟩
      have c2 := c1.trans (b1.mono c1.size); clear c1 b1
      have c1 := c2; clear c2
      go_wp2_with fail
      refine (itoa_is M hM2 D HD.out _ (HT.out.below c1)).mono ?_
      rintro e w109 ⟨rfl, b1⟩
      have c2 := c1.trans (b1.mono c1.size); clear c1 b1
      have c1 := c2; clear c2
      go_wp2_with fail
      refine (korder_is S T x HX.out _).mono ?_
      rintro e w110 ⟨rfl, rfl⟩
      go_wp2_with fail
      refine (works_any _ (HT.out.below c1)).mono ?_
      rintro e w111 ⟨rfl, b1⟩
      have c2 := c1.trans (b1.mono c1.size); clear c1 b1
      have c1 := c2; clear c2
      go_wp2_with fail
      go_ret
      exact ⟨rfl, c1⟩
end Go.Proofs.YthmbcjladgnigaaDoor
