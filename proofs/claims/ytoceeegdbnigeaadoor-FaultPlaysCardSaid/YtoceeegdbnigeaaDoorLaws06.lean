/-
  Plain Lean, no program: string forms of values are decoded again; what is decoded has the form that was decoded; joins.
  Conditions: none.
-/
import Derived.Test.YtoceeegdbnigeaaDoorPlain
namespace Go.Proofs.YtoceeegdbnigeaaDoor
open Go Go.RowKit

theorem hexD_nib (n : Nat) (h : n < 16) : nib ((hexD n).toNat : Int) = n := by
  have hc : n = 0 ∨ n = 1 ∨ n = 2 ∨ n = 3 ∨ n = 4 ∨ n = 5 ∨ n = 6 ∨ n = 7 ∨ n = 8 ∨ n = 9 ∨ n = 10 ∨ n = 11 ∨ n = 12 ∨ n = 13 ∨ n = 14 ∨ n = 15 := by omega
  rcases hc with rfl | rfl | rfl | rfl | rfl | rfl | rfl | rfl | rfl | rfl | rfl | rfl | rfl | rfl | rfl | rfl <;> decide
theorem nib_hexD (c : UInt8) (h : 0 ≤ nib (c.toNat : Int)) : hexD (nib (c.toNat : Int)).toNat = c := by
  have hc := c.toNat_lt
  unfold nib at h ⊢
  apply UInt8.toNat_inj.1
  unfold hexD
  split at h
  · rename_i h1
    rw [if_pos h1, if_pos (by omega)]
    simp
    omega
  · split at h
    · rename_i h1 h2
      rw [if_neg h1, if_pos h2, if_neg (by omega)]
      simp
      omega
    · omega
theorem pair_hexD (c : UInt8) : pairByte (hexD (c.toNat / 16)) (hexD (c.toNat % 16)) = c ∧ pairBad (hexD (c.toNat / 16)) (hexD (c.toNat % 16)) = false := by
  have hc := c.toNat_lt
  have h1 := hexD_nib (c.toNat / 16) (by omega)
  have h2 := hexD_nib (c.toNat % 16) (by omega)
  refine ⟨?_, pairBad_false (by omega) (by omega)⟩
  apply UInt8.toNat_inj.1
  have := pairByte_toNat (a := hexD (c.toNat / 16)) (b := hexD (c.toNat % 16)) (by omega) (by omega) (by omega) (by omega)
  omega
theorem unhex_hexL (l : List UInt8) : unhex (hexL l) = some l := by
  induction l with
  | nil => rfl
  | cons c r ih =>
    obtain ⟨h1, h2⟩ := pair_hexD c
    simp only [hexL, unhex]
    rw [h2, ih, h1]
    rfl
theorem hexD_pair (a b : UInt8) (h : pairBad a b = false) : hexD ((pairByte a b).toNat / 16) = a ∧ hexD ((pairByte a b).toNat % 16) = b := by
  have h1 : 0 ≤ nib (a.toNat : Int) ∧ 0 ≤ nib (b.toNat : Int) := by
    unfold pairBad at h
    simp at h
    exact h
  have r1 := nib_range (a.toNat : Int)
  have r2 := nib_range (b.toNat : Int)
  have := pairByte_toNat (a := a) (b := b) h1.1 r1.2 h1.2 r2.2
  have e1 : (pairByte a b).toNat / 16 = (nib (a.toNat : Int)).toNat := by omega
  have e2 : (pairByte a b).toNat % 16 = (nib (b.toNat : Int)).toNat := by omega
  rw [e1, e2]
  exact ⟨nib_hexD a h1.1, nib_hexD b h1.2⟩
theorem hexL_unhex : ∀ (l t : List UInt8), unhex l = some t → hexL t = l
  | [], t, h => by simp [unhex] at h; subst h; rfl
  | [_], t, h => by simp [unhex] at h
  | a :: b :: r, t, h => by
    simp only [unhex] at h
    split at h
    · cases h
    · rename_i hb
      cases hr : unhex r with
      | none => rw [hr] at h; cases h
      | some u =>
        rw [hr] at h
        simp at h
        subst h
        obtain ⟨e1, e2⟩ := hexD_pair a b (by simpa using hb)
        simp only [hexL]
        rw [e1, e2, hexL_unhex r u hr]
theorem hexL_inj {a b : List UInt8} (h : hexL a = hexL b) : a = b := by
  have := unhex_hexL a
  rw [h, unhex_hexL] at this
  exact (Option.some.inj this).symm
theorem hexL_ne_dash (l : List UInt8) : ¬ hexL l = [45] := by
  intro h
  have := hexL_length l
  rw [h] at this
  simp at this
  omega
theorem parse_text {l : List UInt8} (h0 : ¬ l.length = 0) (h : ¬ 512 < l.length) : parseV (hexL l) = (l, 0) :=
  parseV_ok (hexL_ne_dash l) (by rw [hexL_length]; omega) (unhex_hexL l) h
theorem hexD_ne_dash (n : Nat) (h : n < 16) : ¬ hexD n = 45 := by
  intro e
  have := hexD_nib n h
  rw [e] at this
  have e2 : nib ((45 : UInt8).toNat : Int) = -1 := by decide
  omega
theorem parse_tail {l : List UInt8} (h0 : ¬ l.length = 0) : parseV ((hexL l).drop 1) = ([], 8) := by
  have hl : ((hexL l).drop 1).length = 2 * l.length - 1 := by rw [List.length_drop, hexL_length]
  refine parseV_bad ?_ (by omega) (unhex_odd _ (by omega))
  cases l with
  | nil => exact absurd rfl h0
  | cons c r =>
    simp only [hexL, List.drop_succ_cons, List.drop_zero]
    intro e
    have := List.head_eq_of_cons_eq e
    exact hexD_ne_dash _ (by have := c.toNat_lt; omega) this
theorem textV_lengths (l : List UInt8) (x : List UInt8) (e : Int) (h : parseV l = (x, e)) : (e = 0 ∧ textV x = (l, 0) ∧ x.length ≤ 512) ∨ (x = [] ∧ (e = 8 ∨ e = 12 ∧ 1024 < l.length)) := by
  unfold parseV at h
  split at h
  · rename_i h1
    simp only [Prod.mk.injEq] at h
    subst h1
    left
    rw [← h.1, ← h.2]
    exact ⟨rfl, rfl, by decide⟩
  · split at h
    · simp only [Prod.mk.injEq] at h
      exact Or.inr ⟨h.1.symm, Or.inl h.2.symm⟩
    · rename_i h1 h2
      cases hu : unhex l with
      | none =>
        rw [hu] at h
        simp only [Prod.mk.injEq] at h
        exact Or.inr ⟨h.1.symm, Or.inl h.2.symm⟩
      | some t =>
        rw [hu] at h
        have hlen := unhex_length l t hu
        simp only at h
        split at h
        · simp only [Prod.mk.injEq] at h
          exact Or.inr ⟨h.1.symm, Or.inr ⟨h.2.symm, by omega⟩⟩
        · rename_i h3
          simp only [Prod.mk.injEq] at h
          left
          rw [← h.1, ← h.2]
          refine ⟨rfl, ?_, by omega⟩
          unfold textV
          rw [if_neg h3, if_neg (by omega), hexL_unhex l t hu]
theorem drop1_list (T : List UInt8) (k : Nat) (hk : k = T.length) : ((⟨T.toArray⟩ : ByteArray).extract 1 k).data.toList = T.drop 1 := by
  subst hk
  simp only [ByteArray.data_extract, Array.toList_extract, List.extract]
  rw [List.take_of_length_le (by rw [List.length_drop]; omega)]
theorem textV_inj {a b : List UInt8} (ha : ¬ 512 < a.length) (hb : ¬ 512 < b.length) (h : (textV a).1 = (textV b).1) : a = b := by
  unfold textV at h
  rw [if_neg ha, if_neg hb] at h
  split at h <;> split at h
  · rename_i h1 h2
    rw [List.eq_nil_of_length_eq_zero h1, List.eq_nil_of_length_eq_zero h2]
  · exact absurd h.symm (hexL_ne_dash b)
  · exact absurd h (hexL_ne_dash a)
  · exact hexL_inj h
theorem textV_len (l : List UInt8) : (textV l).1.length ≤ 2 * l.length + 1 := by
  unfold textV
  split
  · simp
  · split
    · simp
    · simp only [hexL_length]; omega
end Go.Proofs.YtoceeegdbnigeaaDoor
