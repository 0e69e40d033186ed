/-
  Plain Lean, no program: widths, little-endian bytes, decimal strings.
  Conditions: none.
-/
import Derived.Test.YtoceeegdbnigeaaDoorPlain
namespace Go.Proofs.YtoceeegdbnigeaaDoor
open Go Go.RowKit

def isW (w : Int) : Bool := decide (w = 1 ∨ w = 2 ∨ w = 4 ∨ w = 8)
theorem isW_true {w : Int} (h : w = 1 ∨ w = 2 ∨ w = 4 ∨ w = 8) : isW w = true := by unfold isW; simpa using h
theorem isW_false {w : Int} (h : ¬ (w = 1 ∨ w = 2 ∨ w = 4 ∨ w = 8)) : isW w = false := by unfold isW; simpa using h
theorem isW_cases (w : Int) : (isW w = false ∧ ¬ (w = 1 ∨ w = 2 ∨ w = 4 ∨ w = 8)) ∨ (isW w = true ∧ (w = 1 ∨ w = 2 ∨ w = 4 ∨ w = 8)) := by
  by_cases h : w = 1 ∨ w = 2 ∨ w = 4 ∨ w = 8
  · exact Or.inr ⟨isW_true h, h⟩
  · exact Or.inl ⟨isW_false h, h⟩
def fitsV (n : Nat) (w : Int) : Bool := isW w && decide (n < 256 ^ w.toNat)
/-- The little-endian bytes of a number. -/
def leL (n k : Nat) : List UInt8 := (List.range k).map fun i => UInt8.ofNat (n / 256 ^ i % 256)
theorem leL_length (n k : Nat) : (leL n k).length = k := by simp [leL]
theorem leL_succ (n k : Nat) : leL n (k + 1) = leL n k ++ [UInt8.ofNat (n / 256 ^ k % 256)] := by simp [leL, List.range_succ]
theorem leL_zero (n : Nat) : leL n 0 = [] := rfl
/-- The number of little-endian bytes. -/
def unle : List UInt8 → Nat
  | [] => 0
  | c :: r => c.toNat + 256 * unle r
theorem unle_append (a b : List UInt8) : unle (a ++ b) = unle a + 256 ^ a.length * unle b := by
  induction a with
  | nil => simp [unle]
  | cons c r ih =>
    simp only [List.cons_append, unle, List.length_cons, ih, Nat.pow_succ]
    rw [Nat.mul_add, ← Nat.mul_assoc, Nat.mul_comm 256 (256 ^ r.length)]
    omega
theorem unle_lt (l : List UInt8) : unle l < 256 ^ l.length := by
  induction l with
  | nil => simp [unle]
  | cons c r ih =>
    have := c.toNat_lt
    simp only [unle, List.length_cons, Nat.pow_succ]
    omega
theorem unle_leL (n k : Nat) : unle (leL n k) = n % 256 ^ k := by
  induction k with
  | zero => simp [leL, unle, Nat.mod_one]
  | succ k ih =>
    rw [leL_succ, unle_append, ih, leL_length]
    have e : (UInt8.ofNat (n / 256 ^ k % 256)).toNat = n / 256 ^ k % 256 := by rw [UInt8.toNat_ofNat']; omega
    simp only [unle, e, Nat.mul_zero, Nat.add_zero]
    rw [Nat.pow_succ, Nat.mod_mul]
theorem pow_le (w : Int) (h : w = 1 ∨ w = 2 ∨ w = 4 ∨ w = 8) : 256 ^ w.toNat ≤ 256 ^ 8 := by rcases h with rfl | rfl | rfl | rfl <;> decide
theorem take_succ_getD (l : List UInt8) (k : Nat) (h : k < l.length) : l.take (k + 1) = l.take k ++ [l.getD k 0] := by
  rw [List.take_succ_eq_append_getElem h, List.getD, List.getElem?_eq_getElem h]; rfl
theorem drop_getD (l : List UInt8) (a k : Nat) : (l.drop a).getD k 0 = l.getD (a + k) 0 := by simp [List.getD, List.getElem?_drop]
/-- The plain answer of Append. -/
def appV (l : List UInt8) (n : Nat) (w : Int) : List UInt8 × Int := if isW w = false then ([], 2) else if fitsV n w = false then ([], 16) else (l ++ leL n w.toNat, 0)
theorem appV_arg {l : List UInt8} {n : Nat} {w : Int} (h : isW w = false) : appV l n w = ([], 2) := by unfold appV; rw [if_pos h]
theorem appV_over {l : List UInt8} {n : Nat} {w : Int} (h : isW w = true) (h2 : fitsV n w = false) : appV l n w = ([], 16) := by unfold appV; rw [if_neg (by rw [h]; decide), if_pos h2]
theorem appV_ok {l : List UInt8} {n : Nat} {k : Nat} (h : isW (k : Int) = true) (h2 : fitsV n (k : Int) = true) : appV l n (k : Int) = (l ++ leL n k, 0) := by
  unfold appV; rw [if_neg (by rw [h]; decide), if_neg (by rw [h2]; decide)]; rfl
theorem snoc_leL (l : List UInt8) (n i m : Nat) (hm : n / 256 ^ i = m) : (l ++ leL n i) ++ [UInt8.ofNat (m % 256)] = l ++ leL n (i + 1) := by rw [leL_succ, hm, List.append_assoc]
theorem byte_toNat (m : Nat) : ((UInt8.ofNat (m % 256)).toNat : Int) = (m : Int) % 256 := by rw [UInt8.toNat_ofNat']; omega
def uintV (l : List UInt8) (at_ : Int) (w : Int) : Nat × Int :=
  if isW w = false then (0, 2) else if at_ < 0 then (0, 3) else if (l.length : Int) - w < at_ then (0, 14) else (unle ((l.drop at_.toNat).take w.toNat), 0)
theorem uintV_arg {l : List UInt8} {a w : Int} (h : isW w = false) : uintV l a w = (0, 2) := by unfold uintV; rw [if_pos h]
theorem uintV_range {l : List UInt8} {a w : Int} (h : isW w = true) (h2 : a < 0) : uintV l a w = (0, 3) := by unfold uintV; rw [if_neg (by rw [h]; decide), if_pos h2]
theorem uintV_torn {l : List UInt8} {a w : Int} (h : isW w = true) (h2 : ¬ a < 0) (h3 : (l.length : Int) - w < a) : uintV l a w = (0, 14) := by unfold uintV; rw [if_neg (by rw [h]; decide), if_neg h2, if_pos h3]
theorem uintV_ok {l : List UInt8} {a k : Nat} (h : isW (k : Int) = true) (h3 : a + k ≤ l.length) : uintV l (a : Int) (k : Int) = (unle ((l.drop a).take k), 0) := by
  unfold uintV; rw [if_neg (by rw [h]; decide), if_neg (by omega), if_neg (by omega)]; rfl
theorem unle_drop (L : List UInt8) (j : Nat) (h : j < L.length) : unle (L.drop j) = (L.getD j 0).toNat + 256 * unle (L.drop (j + 1)) := by
  rw [List.drop_eq_getElem_cons h, unle, List.getD, List.getElem?_eq_getElem h]; rfl
theorem unle_small (L : List UInt8) (j : Nat) (h : L.length ≤ 8) : unle (L.drop j) < 256 ^ 8 := by
  refine Nat.lt_of_lt_of_le (unle_lt _) (Nat.pow_le_pow_right (by decide) ?_)
  rw [List.length_drop]; omega
theorem part_getD (l : List UInt8) (a k j : Nat) (h : j < k) : ((l.drop a).take k).getD j 0 = l.getD (a + j) 0 := by
  simp [List.getD, h, List.getElem?_drop]
theorem part_length (l : List UInt8) (a k : Nat) (h : a + k ≤ l.length) : ((l.drop a).take k).length = k := by simp; omega
theorem fits_shr (n k C : Nat) (hC : C = 256 ^ k) (h : isW (k : Int) = true) : (((n : Int) / (C : Int)) == 0) = fitsV n (k : Int) := by
  have hp : 0 < C := by rw [hC]; exact Nat.pow_pos (by decide)
  have h0 := Nat.div_eq_zero_iff_lt (x := n) hp
  have hi : ((n : Int) / (C : Int)) = ((n / C : Nat) : Int) := rfl
  unfold fitsV
  rw [h, Bool.true_and, Bool.eq_iff_iff, beq_iff_eq, decide_eq_true_iff, show (k : Int).toNat = k by omega, ← hC, hi]
  omega
theorem two_pow8 (i : Nat) : (2 : Nat) ^ (8 * i) = 256 ^ i := by rw [Nat.pow_mul]
theorem two_pow8_int (i : Nat) : (2 : Int) ^ (8 * i) = ((256 ^ i : Nat) : Int) := by rw [← two_pow8, Int.natCast_pow]; rfl
theorem byte_shift (n i : Nat) : ((UInt8.ofNat (n / 256 ^ i % 256)).toNat : Int) = (n : Int) / 2 ^ (8 * i) % 256 := by
  rw [byte_toNat, two_pow8_int]; rfl
theorem unle_take (L : List UInt8) (i : Nat) (h : i < L.length) : unle (L.take (i + 1)) = unle (L.take i) + 256 ^ i * (L.getD i 0).toNat := by
  rw [take_succ_getD L i h, unle_append, List.length_take, Nat.min_eq_left (by omega)]
  simp [unle]
theorem unle_take_lt (L : List UInt8) (i : Nat) : unle (L.take i) < 256 ^ i := by
  refine Nat.lt_of_lt_of_le (unle_lt _) (Nat.pow_le_pow_right (by decide) ?_)
  rw [List.length_take]; omega
theorem or_next (n i y : Nat) (h : n < 256 ^ i) : (n ||| y * 256 ^ i) = n + 256 ^ i * y := by
  rw [Nat.or_comm, Nat.mul_comm, ← two_pow8] at *
  rw [← Nat.two_pow_add_eq_or_of_lt h, Nat.add_comm]
theorem fits_wide (n : Nat) (h : isW 8 = true) (hn : n < 256 ^ 8) : fitsV n 8 = true := by
  unfold fitsV
  rw [h, Bool.true_and]
  exact decide_eq_true hn
end Go.Proofs.YtoceeegdbnigeaaDoor
