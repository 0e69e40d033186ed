/-
  Plain Lean, no program: decimal digits and their number; what descriptions tell apart.
  Conditions: none.
-/
import Derived.Test.YtoceeegdbnigeaaDoorLaws06
namespace Go.Proofs.YtoceeegdbnigeaaDoor
open Go Go.RowKit

/-- The number of decimal digits, read from the left. -/
def dval (l : List UInt8) : Nat := l.foldl (fun n c => n * 10 + (c.toNat - 48)) 0
theorem dval_snoc (l : List UInt8) (c : UInt8) : dval (l ++ [c]) = dval l * 10 + (c.toNat - 48) := by simp [dval]
theorem digit_toNat (n : Nat) (h : n < 10) : (UInt8.ofNat (48 + n)).toNat = 48 + n := by
  rw [UInt8.toNat_ofNat']; omega
theorem dval_dec (n : Nat) : dval (Lib.decDigits n) = n := by
  induction n using Nat.strongRecOn with
  | ind n ih =>
    rw [Lib.decDigits]
    split
    · rename_i h
      simp only [dval, List.foldl_cons, List.foldl_nil]
      rw [digit_toNat n h]; omega
    · rename_i h
      rw [dval_snoc, ih (n / 10) (by omega), digit_toNat _ (by omega)]
      omega
theorem dec_digits (n : Nat) : ∀ c ∈ Lib.decDigits n, 48 ≤ c.toNat ∧ c.toNat ≤ 57 := by
  induction n using Nat.strongRecOn with
  | ind n ih =>
    rw [Lib.decDigits]
    split
    · rename_i h
      intro c hc
      rw [List.mem_singleton] at hc
      rw [hc, digit_toNat n h]; omega
    · intro c hc
      rw [List.mem_append] at hc
      rcases hc with hc | hc
      · exact ih (n / 10) (by omega) c hc
      · rw [List.mem_singleton] at hc
        rw [hc, digit_toNat _ (by omega)]; omega
theorem dec_pos (n : Nat) : 0 < (Lib.decDigits n).length := by
  rw [Lib.decDigits]; split <;> simp
theorem fold_ge : ∀ (b : List UInt8) (m : Nat), m ≤ b.foldl (fun n c => n * 10 + (c.toNat - 48)) m
  | [], m => Nat.le_refl m
  | c :: r, m => Nat.le_trans (by omega) (fold_ge r (m * 10 + (c.toNat - 48)))
theorem dval_take_le (l : List UInt8) (k : Nat) : dval (l.take k) ≤ dval l := by
  have e : dval l = (l.drop k).foldl (fun n c => n * 10 + (c.toNat - 48)) (dval (l.take k)) := by
    unfold dval
    rw [← List.foldl_append, List.take_append_drop]
  rw [e]
  exact fold_ge _ _
theorem dval_take_succ (l : List UInt8) (k : Nat) (h : k < l.length) : dval (l.take (k + 1)) = dval (l.take k) * 10 + ((l.getD k 0).toNat - 48) := by
  rw [List.take_succ_eq_append_getElem h, dval_snoc, List.getD, List.getElem?_eq_getElem h]
  rfl
/-- The description's parts. -/
def shortRest (l : List UInt8) : List UInt8 := hexL (l.take 8) ++ (if 8 < l.length then [46, 46] else [])
theorem shortV_eq (l : List UInt8) : shortV l = Lib.decDigits l.length ++ 58 :: shortRest l := by
  unfold shortV shortRest
  rw [itoa_nat]
  simp
theorem split_colon : ∀ (a b x y : List UInt8), (∀ c ∈ a, c.toNat ≤ 57) → (∀ c ∈ b, c.toNat ≤ 57) → a ++ 58 :: x = b ++ 58 :: y → a = b ∧ x = y
  | [], [], x, y, _, _, h => ⟨rfl, by simpa using h⟩
  | [], c :: b, x, y, _, hb, h => by
    simp at h
    have := hb c (by simp)
    rw [← h.1] at this
    exact absurd this (by decide)
  | c :: a, [], x, y, ha, _, h => by
    simp at h
    have := ha c (by simp)
    rw [h.1] at this
    exact absurd this (by decide)
  | c :: a, d :: b, x, y, ha, hb, h => by
    simp at h
    obtain ⟨h1, h2⟩ := split_colon a b x y (fun z hz => ha z (by simp [hz])) (fun z hz => hb z (by simp [hz])) h.2
    exact ⟨by rw [h.1, h1], h2⟩
theorem short_tells (a b : List UInt8) : shortV a = shortV b ↔ a.length = b.length ∧ a.take 8 = b.take 8 := by
  constructor
  · intro h
    rw [shortV_eq, shortV_eq] at h
    obtain ⟨h1, h2⟩ := split_colon _ _ _ _ (fun c hc => (dec_digits _ c hc).2) (fun c hc => (dec_digits _ c hc).2) h
    have hl : a.length = b.length := by rw [← dval_dec a.length, h1, dval_dec]
    refine ⟨hl, ?_⟩
    unfold shortRest at h2
    rw [hl] at h2
    exact hexL_inj (List.append_cancel_right h2)
  · intro h
    rw [shortV_eq, shortV_eq]
    unfold shortRest
    rw [h.1, h.2]
theorem shortRest_length (l : List UInt8) : (shortRest l).length = if 8 < l.length then 18 else 2 * l.length := by
  unfold shortRest
  rw [List.length_append, hexL_length, List.length_take]
  split
  · simp; omega
  · simp; omega
theorem short_digit (l : List UInt8) (j : Nat) (h : j < (Lib.decDigits l.length).length) : (shortV l).getD j 0 = (Lib.decDigits l.length).getD j 0 := by
  rw [shortV_eq, List.getD, List.getElem?_append_left h]; rfl
theorem short_colon (l : List UInt8) : (shortV l).getD (Lib.decDigits l.length).length 0 = 58 := by
  rw [shortV_eq, List.getD, List.getElem?_append_right (Nat.le_refl _)]; simp
theorem short_length (l : List UInt8) : (shortV l).length = (Lib.decDigits l.length).length + 1 + (shortRest l).length := by
  rw [shortV_eq]; simp; omega
theorem short_dots (l : List UInt8) (h : 8 < l.length) : (shortV l).drop ((shortV l).length - 2) = [46, 46] := by
  have e : shortV l = (Lib.decDigits l.length ++ 58 :: hexL (l.take 8)) ++ [46, 46] := by
    rw [shortV_eq]; unfold shortRest; rw [if_pos h]; simp
  rw [e, List.length_append]
  simp
end Go.Proofs.YtoceeegdbnigeaaDoor
