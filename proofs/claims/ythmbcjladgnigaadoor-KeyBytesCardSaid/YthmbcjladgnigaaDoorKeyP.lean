/-
  Plain Lean, no program: which strings are keys, the common prefix, the order, the next key.
  Conditions: none.
-/
import Derived.Test.YthmbcjladgnigaaDoorPlain
import Derived.Lib.Bytealg
namespace Go.Proofs.YthmbcjladgnigaaDoor
open Go Go.RowKit

/-- The key characters, in order. -/
def keyL : List UInt8 := [45, 46, 48, 49, 50, 51, 52, 53, 54, 55, 56, 57, 95, 97, 98, 99, 100, 101, 102, 103, 104, 105, 106, 107, 108, 109, 110, 111, 112, 113, 114, 115, 116, 117, 118, 119, 120, 121, 122]
abbrev keyS : ByteArray := ⟨#[45, 46, 48, 49, 50, 51, 52, 53, 54, 55, 56, 57, 95, 97, 98, 99, 100, 101, 102, 103, 104, 105, 106, 107, 108, 109, 110, 111, 112, 113, 114, 115, 116, 117, 118, 119, 120, 121, 122]⟩
theorem keyS_list : keyS.data.toList = keyL := rfl
def isKey (c : UInt8) : Bool := decide (0 ≤ Lib.indexByte keyL c)
theorem key_all : ∀ n : Nat, n < 256 → (isKey (UInt8.ofNat n) = true → n < 128 ∧ Lib.indexByte keyL (UInt8.ofNat n) < 39 ∧ (Lib.indexByte keyL (UInt8.ofNat n) = 38 ↔ n = 122) ∧ keyL.getD (Lib.indexByte keyL (UInt8.ofNat n)).toNat 0 = UInt8.ofNat n) := by decide +kernel
theorem isKey_facts {c : UInt8} (h : isKey c = true) : c.toNat < 128 ∧ Lib.indexByte keyL c < 39 ∧ (Lib.indexByte keyL c = 38 ↔ c = 122) ∧ keyL.getD (Lib.indexByte keyL c).toNat 0 = c := by
  have h1 := key_all c.toNat c.toNat_lt
  rw [UInt8.ofNat_toNat] at h1
  obtain ⟨a, b, d, e⟩ := h1 h
  refine ⟨a, b, ?_, e⟩
  rw [d]
  constructor
  · intro hc; exact UInt8.toNat_inj.1 hc
  · intro hc; rw [hc]; rfl
def keyV (l : List UInt8) : Int := if l.all isKey = false ∨ l.length = 0 then 2 else if 32 < l.length then 12 else 0
theorem all_of {p : UInt8 → Bool} {l : List UInt8} (h : ∀ j, j < l.length → p (l.getD j 0) = true) : l.all p = true := by
  rw [List.all_eq_true]
  intro x hx
  obtain ⟨j, hj, rfl⟩ := List.getElem_of_mem hx
  have := h j hj
  rwa [List.getD, List.getElem?_eq_getElem hj] at this
theorem all_bad {p : UInt8 → Bool} {l : List UInt8} (j : Nat) (hj : j < l.length) (h : p (l.getD j 0) = false) : l.all p = false := by
  rw [List.all_eq_false]
  refine ⟨l[j], List.getElem_mem _, ?_⟩
  rw [List.getD, List.getElem?_eq_getElem hj] at h
  simpa using h
theorem all_get {p : UInt8 → Bool} {l : List UInt8} (h : l.all p = true) (j : Nat) (hj : j < l.length) : p (l.getD j 0) = true := by
  rw [List.all_eq_true] at h
  rw [List.getD, List.getElem?_eq_getElem hj]
  exact h _ (List.getElem_mem _)
theorem keyV_bad {l : List UInt8} (h : l.all isKey = false) : keyV l = 2 := by unfold keyV; rw [if_pos (Or.inl h)]
theorem keyV_empty {l : List UInt8} (h : l.length = 0) : keyV l = 2 := by unfold keyV; rw [if_pos (Or.inr h)]
theorem keyV_large {l : List UInt8} (h : l.all isKey = true) (h2 : 32 < l.length) : keyV l = 12 := by
  unfold keyV; rw [if_neg (fun hc => hc.elim (fun h1 => by rw [h] at h1; cases h1) (fun h1 => by omega)), if_pos h2]
theorem keyV_ok {l : List UInt8} (h : l.all isKey = true) (h1 : 0 < l.length) (h2 : l.length ≤ 32) : keyV l = 0 := by
  unfold keyV; rw [if_neg (fun hc => hc.elim (fun h1 => by rw [h] at h1; cases h1) (fun h1 => by omega)), if_neg (by omega)]
theorem keyV_cases (l : List UInt8) : (keyV l = 2 ∧ l.all isKey = false) ∨ (keyV l = 2 ∧ l.length = 0) ∨ (keyV l = 12 ∧ l.all isKey = true ∧ 32 < l.length) ∨ (keyV l = 0 ∧ l.all isKey = true ∧ 0 < l.length ∧ l.length ≤ 32) := by
  rcases h : l.all isKey with _ | _
  · exact Or.inl ⟨keyV_bad h, rfl⟩
  · by_cases h0 : l.length = 0
    · exact Or.inr (Or.inl ⟨keyV_empty h0, h0⟩)
    · by_cases h2 : 32 < l.length
      · exact Or.inr (Or.inr (Or.inl ⟨keyV_large h h2, rfl, h2⟩))
      · exact Or.inr (Or.inr (Or.inr ⟨keyV_ok h (by omega) (by omega), rfl, by omega, by omega⟩))
def kfitsV (l : List UInt8) (m : Int) : Int := if m < 1 ∨ 32 < m then 2 else if keyV l = 0 then (if m < l.length then 12 else 0) else keyV l
/-- The length of the common prefix. -/
def commonL : List UInt8 → List UInt8 → Nat
  | x :: r, y :: t => if x = y then commonL r t + 1 else 0
  | _, _ => 0
theorem common_is : ∀ (a b : List UInt8) (i : Nat), i ≤ a.length → i ≤ b.length → (∀ j, j < i → a.getD j 0 = b.getD j 0) → (i = a.length ∨ i = b.length ∨ a.getD i 0 ≠ b.getD i 0) → commonL a b = i
  | [], b, i, h1, _, _, _ => by simp at h1; subst h1; cases b <;> rfl
  | x :: r, [], i, _, h2, _, _ => by simp at h2; subst h2; rfl
  | x :: r, y :: t, 0, _, _, _, h4 => by
    have h : x ≠ y := by rcases h4 with h | h | h <;> simp at h; exact h
    simp [commonL, h]
  | x :: r, y :: t, i + 1, h1, h2, h3, h4 => by
    have hx : x = y := h3 0 (by omega)
    have ih := common_is r t i (by simpa using h1) (by simpa using h2) (fun j hj => h3 (j + 1) (by omega)) (by simpa using h4)
    simp [commonL, hx, ih]
theorem common_spec : ∀ (a b : List UInt8), commonL a b ≤ a.length ∧ commonL a b ≤ b.length ∧ (∀ j, j < commonL a b → a.getD j 0 = b.getD j 0) ∧ (commonL a b = a.length ∨ commonL a b = b.length ∨ a.getD (commonL a b) 0 ≠ b.getD (commonL a b) 0)
  | [], b => by cases b <;> simp [commonL]
  | x :: r, [] => by simp [commonL]
  | x :: r, y :: t => by
    obtain ⟨h1, h2, h3, h4⟩ := common_spec r t
    by_cases hx : x = y
    · subst hx
      have e : commonL (x :: r) (x :: t) = commonL r t + 1 := by simp [commonL]
      rw [e]
      refine ⟨by simpa using h1, by simpa using h2, ?_, by simpa using h4⟩
      intro j hj
      cases j with
      | zero => rfl
      | succ j => exact h3 j (by omega)
    · have e : commonL (x :: r) (y :: t) = 0 := by simp [commonL, hx]
      rw [e]
      exact ⟨Nat.zero_le _, Nat.zero_le _, fun j hj => absurd hj (Nat.not_lt_zero _), Or.inr (Or.inr hx)⟩
theorem u8_lt (x y : UInt8) : x < y ↔ x.toNat < y.toNat := UInt8.lt_iff_toNat_lt
/-- The order by the common prefix. -/
theorem order_is : ∀ (a b : List UInt8), Lib.compareBytes a b = if commonL a b = a.length ∧ commonL a b = b.length then 0 else if commonL a b = a.length ∨ (commonL a b < b.length ∧ (a.getD (commonL a b) 0).toNat < (b.getD (commonL a b) 0).toNat) then -1 else 1
  | [], [] => by simp [Lib.compareBytes, commonL]
  | [], y :: t => by simp [Lib.compareBytes, commonL]
  | x :: r, [] => by simp [Lib.compareBytes, commonL]
  | x :: r, y :: t => by
    have ih := order_is r t
    by_cases hx : x = y
    · subst hx
      have e : commonL (x :: r) (x :: t) = commonL r t + 1 := by simp [commonL]
      have e2 : Lib.compareBytes (x :: r) (x :: t) = Lib.compareBytes r t := by
        have h1 : ¬ x < x := by rw [u8_lt]; omega
        simp [Lib.compareBytes, h1]
      rw [e, e2, ih]
      simp
    · have e : commonL (x :: r) (y :: t) = 0 := by simp [commonL, hx]
      rw [e]
      have hne : x.toNat ≠ y.toNat := fun h => hx (UInt8.toNat_inj.1 h)
      by_cases hlt : x.toNat < y.toNat
      · have h1 : x < y := by rw [u8_lt]; exact hlt
        simp [Lib.compareBytes, h1, hlt]
      · have h1 : ¬ x < y := by rw [u8_lt]; exact hlt
        have h2 : y < x := by rw [u8_lt]; omega
        simp [Lib.compareBytes, h1, h2, hlt]
end Go.Proofs.YthmbcjladgnigaaDoor
