/-
  Plain Lean, no program: going through a string for the ends of its words.
  Conditions: none.
-/
import Derived.Test.YtllgnogiicdhfaaDoorCfg9
set_option linter.unusedVariables false
namespace Go.Proofs.YtllgnogiicdhfaaDoor
open Go Go.RowKit

/-- Going through a string: k words have ended, the next began at f. -/
def RI (l : List UInt8) (i k f : Nat) : Prop := ∃ pre : List (List UInt8), pre.length = k ∧ wl l = pre ++ wl (l.drop f) ∧ f ≤ i ∧ i ≤ l.length ∧ k ≤ f ∧ (32 : UInt8) ∉ (l.drop f).take (i - f)
theorem RI.start (l : List UInt8) : RI l 0 0 0 := ⟨[], rfl, rfl, Nat.le_refl _, Nat.zero_le _, Nat.le_refl _, by simp⟩
theorem take_next (l : List UInt8) (i f : Nat) (hf : f ≤ i) (hi : i < l.length) : (l.drop f).take (i + 1 - f) = (l.drop f).take (i - f) ++ [l.getD i 0] := by
  rw [show i + 1 - f = (i - f) + 1 by omega, List.take_add_one, List.getElem?_drop, show f + (i - f) = i by omega, List.getD, List.getElem?_eq_getElem hi]
  rfl
theorem RI.skip {l : List UInt8} {i k f : Nat} (h : RI l i k f) (hi : i < l.length) (hc : l.getD i 0 ≠ 32) : RI l (i + 1) k f := by
  obtain ⟨pre, h1, h2, h3, h4, h5, h6⟩ := h
  refine ⟨pre, h1, h2, by omega, by omega, h5, ?_⟩
  rw [take_next l i f h3 hi, List.mem_append]
  rintro (h | h)
  · exact h6 h
  · rw [List.mem_singleton] at h
    exact hc h.symm
theorem drop_word (l : List UInt8) (i f : Nat) (hf : f ≤ i) (hi : i < l.length) (hc : l.getD i 0 = 32) : l.drop f = (l.drop f).take (i - f) ++ 32 :: l.drop (i + 1) := by
  have h1 := (List.take_append_drop (i - f) (l.drop f)).symm
  rw [List.drop_drop, show f + (i - f) = i by omega, List.drop_eq_getElem_cons hi] at h1
  rw [List.getD, List.getElem?_eq_getElem hi] at hc
  have hc2 : l[i] = 32 := hc
  rw [hc2] at h1
  exact h1
theorem RI.cut {l : List UInt8} {i k f : Nat} (h : RI l i k f) (hi : i < l.length) (hc : l.getD i 0 = 32) :
    RI l (i + 1) (k + 1) (i + 1) ∧ (wl l).getD k [] = (l.drop f).take (i - f) ∧ k + 1 < (wl l).length := by
  obtain ⟨pre, h1, h2, h3, h4, h5, h6⟩ := h
  have hd := drop_word l i f h3 hi hc
  have hw : wl l = pre ++ (l.drop f).take (i - f) :: wl (l.drop (i + 1)) := by
    rw [h2]
    congr 1
    conv => lhs; rw [hd]
    exact wl_app _ _ h6
  refine ⟨⟨pre ++ [(l.drop f).take (i - f)], by simp [h1], by rw [hw]; simp, Nat.le_refl _, by omega, by omega, by simp⟩, ?_, ?_⟩
  · rw [hw, List.getD, List.getElem?_append_right (by omega), h1, Nat.sub_self]
    rfl
  · have hp := List.length_pos_iff.2 (wl_ne (l.drop (i + 1)))
    rw [hw, List.length_append, List.length_cons, h1]
    omega
theorem RI.done {l : List UInt8} {k f : Nat} (h : RI l l.length k f) : (wl l).length = k + 1 := by
  obtain ⟨pre, h1, h2, h3, h4, h5, h6⟩ := h
  have e : (l.drop f).take (l.length - f) = l.drop f := List.take_of_length_le (by rw [List.length_drop]; exact Nat.le_refl _)
  rw [e] at h6
  rw [h2, wl_word _ h6, List.length_append, h1]
  rfl
theorem RI.small {l : List UInt8} {i k f : Nat} (h : RI l i k f) : f ≤ i ∧ k ≤ f ∧ i ≤ l.length := by
  obtain ⟨pre, h1, h2, h3, h4, h5, h6⟩ := h
  exact ⟨h3, h5, h4⟩
theorem words_getD (s : ByteArray) (k : Nat) : (wordsL s).getD k ⟨#[]⟩ = pack ((wl s.data.toList).getD k []) := by
  rw [wordsL_pack, List.getD, List.getElem?_map, List.getD]
  cases (wl s.data.toList)[k]? with
  | none => rfl
  | some x => rfl
theorem extract_list (s : ByteArray) (f i : Nat) (h : i ≤ s.size) : (s.extract f i).data.toList = (s.data.toList.drop f).take (i - f) := by
  exact Lib.extract_data s f i
/-- What is made of a word: the number, if it is one that is not too large. -/
def numR (x : ByteArray) : Nat := if (digV x.data.toList).2 = 0 ∧ (digV x.data.toList).1 < 1000000 then (digV x.data.toList).1 else 0
/-- What is made of the words of which k have ended. -/
def nAt (xs : List ByteArray) (k j : Nat) : Int := if j < k then (numR (xs.getD j ⟨#[]⟩) : Int) else 0
theorem nAt_good {xs : List ByteArray} (h : goodW xs) (j : Nat) (hj : j < 6) : nAt xs 6 j = ((numL xs j).1 : Int) := by
  obtain ⟨h1, h2⟩ := h.2.1 j hj
  unfold nAt numR
  unfold numL at *
  rw [if_pos hj, if_pos ⟨h1, by omega⟩]
end Go.Proofs.YtllgnogiicdhfaaDoor
