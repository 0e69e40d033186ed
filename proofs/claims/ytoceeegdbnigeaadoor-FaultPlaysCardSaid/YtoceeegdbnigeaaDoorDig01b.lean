/-
  Plain Lean, no program: decimal strings round trip; a further digit.
  Conditions: none.
-/
import Derived.Test.YtoceeegdbnigeaaDoorDig01
namespace Go.Proofs.YtoceeegdbnigeaaDoor
open Go Go.RowKit

theorem dec_allDig (n : Nat) : allDig (Lib.decDigits n) = true := by
  unfold allDig
  rw [List.all_eq_true]
  intro c hc
  exact (isDig_iff c).mpr (dec_digits n c hc)
theorem dec_big (n : Nat) (h : ¬ n < 10) : Lib.decDigits n = Lib.decDigits (n / 10) ++ [UInt8.ofNat (48 + n % 10)] := by
  rw [Lib.decDigits, dif_neg h]
theorem dec_head : ∀ (k n : Nat), n < k → 0 < n → ¬ (Lib.decDigits n).getD 0 0 = 48
  | 0, n, h, _ => absurd h (Nat.not_lt_zero _)
  | k + 1, n, h, h0 => by
    by_cases h10 : n < 10
    · rw [Lib.decDigits, dif_pos h10]
      intro e
      have e2 := congrArg UInt8.toNat e
      simp at e2
      omega
    · rw [dec_big n h10, List.getD, List.getElem?_append_left (dec_pos _)]
      exact dec_head k (n / 10) (by omega) (by omega)
theorem dec_lead (n : Nat) : lead (Lib.decDigits n) = false := by
  have hp := dec_pos n
  unfold lead
  rw [decide_eq_false (by omega), Bool.false_or]
  by_cases h0 : 0 < n
  · rw [decide_eq_false (dec_head (n + 1) n (Nat.lt_succ_self n) h0), Bool.and_false]
  · obtain rfl : n = 0 := by omega
    rw [Lib.decDigits, dif_pos (by decide)]
    rfl
theorem digV_dec {n : Nat} (h : n < M64) : digV (Lib.decDigits n) = (n, 0) := by
  have := digV_ok (dec_allDig n) (dec_lead n) (by rw [dval_dec]; exact h)
  rw [dval_dec] at this
  exact this
theorem allDig_snoc {l : List UInt8} {c : UInt8} (h : allDig l = true) (hc : isDig c = true) : allDig (l ++ [c]) = true := by
  unfold allDig at *
  rw [List.all_append, h]
  simp [hc]
theorem digV_next_zero (c : UInt8) : digV (Lib.decDigits 0 ++ [c]) = (0, 8) := by
  refine digV_lead ?_
  rw [Lib.decDigits, dif_pos (by decide)]
  rfl
theorem next_lead {n : Nat} (h0 : 0 < n) (c : UInt8) : lead (Lib.decDigits n ++ [c]) = false := by
  have hp := dec_pos n
  unfold lead
  rw [List.getD, List.getElem?_append_left hp, ← List.getD, decide_eq_false (dec_head (n + 1) n (Nat.lt_succ_self n) h0), Bool.and_false, decide_eq_false (by simp), Bool.or_false]
theorem digV_next {n : Nat} {c : UInt8} (h0 : 0 < n) (hc : isDig c = true) : digV (Lib.decDigits n ++ [c]) = if M64 ≤ n * 10 + (c.toNat - 48) then (0, 16) else (n * 10 + (c.toNat - 48), 0) := by
  have hv : dval (Lib.decDigits n ++ [c]) = n * 10 + (c.toNat - 48) := by rw [dval_snoc, dval_dec]
  by_cases h : M64 ≤ n * 10 + (c.toNat - 48)
  · rw [if_pos h]
    exact digV_over (allDig_snoc (dec_allDig n) hc) (next_lead h0 c) (by rw [hv]; exact h)
  · rw [if_neg h]
    have := digV_ok (allDig_snoc (dec_allDig n) hc) (next_lead h0 c) (by rw [hv]; omega)
    rw [hv] at this
    exact this
theorem dval_pos : ∀ (l : List UInt8), allDig l = true → 0 < l.length → ¬ l.getD 0 0 = 48 → 0 < dval l
  | c :: r, h, _, hne => by
    simp only [allDig, List.all_cons, Bool.and_eq_true] at h
    have hc := (isDig_iff c).mp h.1
    have hne2 : ¬ c.toNat = 48 := fun e => hne (UInt8.toNat_inj.mp e)
    rw [dval_cons]
    have hp : 0 < 10 ^ r.length := Nat.pow_pos (by decide)
    have : 1 * 10 ^ r.length ≤ (c.toNat - 48) * 10 ^ r.length := Nat.mul_le_mul_right _ (by omega)
    omega
  | [], _, h, _ => absurd h (Nat.lt_irrefl 0)
theorem dec_back : ∀ (k : Nat) (l : List UInt8), l.length = k → allDig l = true → lead l = false → Lib.decDigits (dval l) = l
  | 0, l, hk, _, hl => by
    obtain rfl := List.eq_nil_of_length_eq_zero hk
    simp [lead] at hl
  | k + 1, l, hk, hd, hl => by
    have hne : l ≠ [] := by intro e; rw [e] at hk; simp at hk
    obtain ⟨t, c, rfl⟩ : ∃ t c, l = t ++ [c] := ⟨l.dropLast, l.getLast hne, (List.dropLast_concat_getLast hne).symm⟩
    have htk : t.length = k := by simpa using hk
    have hd2 : allDig t = true ∧ isDig c = true := by
      unfold allDig at hd ⊢
      rw [List.all_append, Bool.and_eq_true] at hd
      exact ⟨hd.1, by simpa using hd.2⟩
    have hc := (isDig_iff c).mp hd2.2
    have hcc : UInt8.ofNat (48 + (c.toNat - 48)) = c := by rw [show 48 + (c.toNat - 48) = c.toNat by omega]; simp
    rw [dval_snoc]
    by_cases ht : t.length = 0
    · obtain rfl := List.eq_nil_of_length_eq_zero ht
      have : dval [] = 0 := rfl
      rw [this, Nat.zero_mul, Nat.zero_add, Lib.decDigits, dif_pos (by omega), hcc]
      rfl
    · have hh : ¬ t.getD 0 0 = 48 := by
        intro e
        have : lead (t ++ [c]) = true := by
          unfold lead
          rw [List.getD, List.getElem?_append_left (by omega), ← List.getD, decide_eq_true e, decide_eq_true (show 1 < (t ++ [c]).length by rw [List.length_append, List.length_singleton]; omega)]
          simp
        rw [this] at hl
        cases hl
      have hlt : lead t = false := by
        unfold lead
        rw [decide_eq_false ht, decide_eq_false hh, Bool.and_false]
        rfl
      have hp := dval_pos t hd2.1 (by omega) hh
      rw [dec_big _ (by omega), show (dval t * 10 + (c.toNat - 48)) / 10 = dval t by omega, show (dval t * 10 + (c.toNat - 48)) % 10 = c.toNat - 48 by omega, dec_back k t htk hd2.1 hlt, hcc]
/-- What decoding a string tells. -/
theorem digV_tells (l : List UInt8) : (digV l = (0, 8)) ∨ (digV l = (0, 16)) ∨ (∃ n, n < M64 ∧ digV l = (n, 0) ∧ Lib.decDigits n = l) := by
  by_cases h1 : allDig l = true
  · by_cases h2 : lead l = true
    · exact Or.inl (digV_lead h2)
    · have h2 : lead l = false := by simpa using h2
      by_cases h3 : M64 ≤ dval l
      · exact Or.inr (Or.inl (digV_over h1 h2 h3))
      · exact Or.inr (Or.inr ⟨dval l, by omega, digV_ok h1 h2 (by omega), dec_back _ l rfl h1 h2⟩)
  · exact Or.inl (digV_bad (by simpa using h1))
end Go.Proofs.YtoceeegdbnigeaaDoor
