/-
  What the reference of layer 1 decodes from hexadecimal.
  Conditions: at most 2^44 bytes.
-/
import Derived.Test.YtmfdfpebbnagfaaDoorRef01d
import Derived.Test.YtmfdfpebbnagfaaDoorBytes
import Derived.Test.YtmfdfpebbnagfaaDoorLaws06
set_option linter.unusedVariables false
namespace Go.Proofs.YtmfdfpebbnagfaaDoor
open Go Go.RowKit

/-- What the pairs that are hexadecimal give. -/
def goodL : List UInt8 → List UInt8
  | a :: b :: r => (if pairBad a b = true then [] else [pairByte a b]) ++ goodL r
  | _ => []
theorem goodL_length : ∀ (l : List UInt8), 2 * (goodL l).length ≤ l.length
  | [] => by simp [goodL]
  | [_] => by simp [goodL]
  | a :: b :: r => by
    have := goodL_length r
    simp only [goodL, List.length_append, List.length_cons]
    split <;> simp <;> omega
theorem unhex_goodL : ∀ (l : List UInt8), unhex l = if 2 * (goodL l).length = l.length then some (goodL l) else none
  | [] => by simp [goodL, unhex]
  | [_] => by simp [goodL, unhex]
  | a :: b :: r => by
    have h := unhex_goodL r
    have hl := goodL_length r
    rw [unhex, h]
    by_cases hb : pairBad a b = true
    · simp only [goodL, hb, if_true, List.nil_append, List.length_cons]
      rw [if_neg (by omega)]
    · simp only [goodL, hb, List.length_append, List.length_cons]
      by_cases h2 : 2 * (goodL r).length = r.length
      · rw [if_pos h2]
        simp
        omega
      · rw [if_neg h2]
        simp
        omega
theorem goodL_snoc : ∀ (l : List UInt8) (a b : UInt8), l.length % 2 = 0 → goodL (l ++ [a, b]) = goodL l ++ (if pairBad a b = true then [] else [pairByte a b])
  | [], a, b, _ => by simp [goodL]
  | [_], a, b, h => by simp at h
  | x :: y :: r, a, b, h => by
    have := goodL_snoc r a b (by simp at h; omega)
    simp only [List.cons_append, goodL, this, List.append_assoc]
theorem goodL_take (l : List UInt8) (i : Nat) (h : i + 1 < l.length) (h2 : i % 2 = 0) :
    goodL (l.take (i + 2)) = goodL (l.take i) ++ (if pairBad (l.getD i 0) (l.getD (i + 1) 0) = true then [] else [pairByte (l.getD i 0) (l.getD (i + 1) 0)]) := by
  have e : l.take (i + 2) = l.take i ++ [l.getD i 0, l.getD (i + 1) 0] := by
    have := take_two l (i / 2) (by omega)
    rw [show 2 * (i / 2 + 1) = i + 2 by omega, show 2 * (i / 2) = i by omega] at this
    exact this
  rw [e, goodL_snoc _ _ _ (by rw [List.length_take]; omega)]
theorem goodL_odd (l : List UInt8) (i : Nat) (h : l.length ≤ i + 1) (h2 : i % 2 = 0) : goodL (l.take i) = goodL l := by
  by_cases h3 : l.length ≤ i
  · rw [List.take_of_length_le h3]
  · have hl : l.length = i + 1 := by omega
    have key : ∀ (m : List UInt8) (c : UInt8), m.length % 2 = 0 → goodL (m ++ [c]) = goodL m := by
      intro m
      induction m using goodL.induct with
      | case1 a b r ih => intro c hm; simp only [List.cons_append, goodL, ih c (by simp at hm; omega)]
      | case2 t ht =>
        intro c hm
        match t, ht, hm with
        | [], _, _ => rfl
        | [_], _, hm => simp at hm
        | x :: y :: r, ht, _ => exact absurd rfl (ht x y r)
    have e : l = l.take i ++ [l.getD i 0] := by rw [← take_succ_getD l i (by omega), List.take_of_length_le (by omega)]
    rw [e, key _ _ (by rw [List.length_take]; omega), ← e]
/-- The k-th byte's two digits are these two exactly if the two decode to k. -/
theorem pair_is (a b : UInt8) (k : Nat) (hk : k < 256) : ([a, b] = [hexD (k / 16), hexD (k % 16)]) ↔ (pairBad a b = false ∧ (pairByte a b).toNat = k) := by
  have hc : (UInt8.ofNat k).toNat = k := by rw [UInt8.toNat_ofNat']; omega
  constructor
  · intro h
    injection h with h1 h2
    injection h2 with h2 _
    have := pair_hexD (UInt8.ofNat k)
    rw [hc, ← h1, ← h2] at this
    exact ⟨this.2, by rw [this.1, hc]⟩
  · rintro ⟨h1, h2⟩
    have := hexD_pair a b h1
    rw [h2] at this
    rw [this.1, this.2]
/-- What the digits below k have given of a pair. -/
def soFar (a b : UInt8) (k : Nat) : List UInt8 := if pairBad a b = false ∧ (pairByte a b).toNat < k then [pairByte a b] else []
theorem soFar_zero (a b : UInt8) : soFar a b 0 = [] := by unfold soFar; rw [if_neg (by omega)]
theorem soFar_done (a b : UInt8) : soFar a b 256 = if pairBad a b = true then [] else [pairByte a b] := by
  have := (pairByte a b).toNat_lt
  unfold soFar
  cases pairBad a b <;> simp [this]
theorem soFar_hit {a b : UInt8} {k : Nat} (h : [a, b] = [hexD (k / 16), hexD (k % 16)]) (hk : k < 256) : soFar a b k = [] ∧ soFar a b (k + 1) = [UInt8.ofNat k] := by
  obtain ⟨h1, h2⟩ := (pair_is a b k hk).mp h
  have hp : pairByte a b = UInt8.ofNat k := by rw [← h2]; simp
  unfold soFar
  rw [if_neg (by omega), if_pos ⟨h1, by omega⟩, hp]
  exact ⟨rfl, rfl⟩
theorem soFar_miss {a b : UInt8} {k : Nat} (h : ¬ [a, b] = [hexD (k / 16), hexD (k % 16)]) (hk : k < 256) : soFar a b (k + 1) = soFar a b k := by
  have h2 := fun hh => h ((pair_is a b k hk).mpr hh)
  unfold soFar
  by_cases hb : pairBad a b = false ∧ (pairByte a b).toNat < k
  · rw [if_pos hb, if_pos ⟨hb.1, by omega⟩]
  · have h4 : ¬ (pairBad a b = false ∧ (pairByte a b).toNat < k + 1) := by
      intro hc
      have h3 : ¬ (pairByte a b).toNat = k := fun e => h2 ⟨hc.1, e⟩
      have h5 := hc.2
      exact hb ⟨hc.1, by omega⟩
    rw [if_neg hb, if_neg h4]
end Go.Proofs.YtmfdfpebbnagfaaDoor
