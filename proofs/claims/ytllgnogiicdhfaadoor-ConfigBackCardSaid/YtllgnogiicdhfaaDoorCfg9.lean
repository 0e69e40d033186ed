/-
  Plain Lean, no program: configurations, their texts and what is read of texts.
  Conditions: none.
-/
import Derived.Test.YtllgnogiicdhfaaDoorCfg8
import Derived.Test.YtllgnogiicdhfaaDoorDig01b
set_option linter.unusedVariables false
namespace Go.Proofs.YtllgnogiicdhfaaDoor
open Go Go.RowKit

theorem dec_nospace (n : Nat) : (32 : UInt8) ∉ Lib.decDigits n := fun h => by
  have := dec_digits n 32 h
  have e : (32 : UInt8).toNat = 32 := rfl
  omega
theorem polS_nospace (P : Int) : (32 : UInt8) ∉ (polS P).data.toList := by
  unfold polS
  split <;> decide
theorem digW_nospace (L : List Int) (P : Int) (n : Nat) : ∀ x ∈ digW L n ++ [polS P], (32 : UInt8) ∉ x.data.toList := by
  intro x hx
  rw [List.mem_append] at hx
  rcases hx with hx | hx
  · unfold digW at hx
    rw [List.mem_map] at hx
    obtain ⟨j, _, rfl⟩ := hx
    exact dec_nospace _
  · simp at hx
    rw [hx]
    exact polS_nospace P
theorem text_words {S Z R W K V P : Int} {s : ByteArray} (h : s.data.toList = textL S Z R W K V P) : wordsL s = digW [S, Z, R, W, K, V] 6 ++ [polS P] :=
  wordsL_of _ (by simp) (digW_nospace _ _ _) s h
theorem digW_getD (L : List Int) (y : ByteArray) (n i : Nat) (h : i < n) : (digW L n ++ [y]).getD i ⟨#[]⟩ = digS L i := by
  rw [List.getD, List.getElem?_append_left (by rw [digW_length]; exact h)]
  unfold digW
  rw [List.getElem?_map, List.getElem?_range h]
  rfl
theorem numL_dig (L : List Int) (y : ByteArray) (i : Nat) (h : i < 6) (hL : 0 ≤ L.getD i 0 ∧ L.getD i 0 ≤ 65536) : numL (digW L 6 ++ [y]) i = ((L.getD i 0).toNat, 0) := by
  unfold numL
  rw [digW_getD L y 6 i h]
  show digV (Lib.decDigits (L.getD i 0).toNat) = _
  exact digV_dec (by have hM : M64 = 18446744073709551616 := rfl
                     omega)
theorem polN_S {P : Int} (h : P = 1 ∨ P = 2) : polN (polS P) = P := by
  rcases h with rfl | rfl
  · unfold polN polS
    rw [if_pos rfl, if_pos rfl]
  · unfold polN polS
    rfl
theorem polS_N {x : ByteArray} (h : 1 ≤ polN x) : polS (polN x) = x := by
  unfold polN polS at *
  by_cases h1 : x = greedyS
  · rw [if_pos h1, if_pos rfl, h1]
  · rw [if_neg h1] at h ⊢
    by_cases h2 : x = benefitS
    · rw [if_pos h2, if_neg (by decide), h2]
    · rw [if_neg h2] at h
      omega
theorem small_nums {S Z R W K V P : Int} (h : cfgE S Z R W K V P = 0) : (∀ j, j < 6 → 0 ≤ [S, Z, R, W, K, V].getD j 0 ∧ [S, Z, R, W, K, V].getD j 0 ≤ 65536) ∧ (P = 1 ∨ P = 2) := by
  rcases cfg_cases S Z R W K V P with ⟨_, h0, h1, h2, h3, h4, h5, h6⟩ | h'
  · refine ⟨fun j hj => ?_, by omega⟩
    match j, hj with
    | 0, _ => show 0 ≤ S ∧ S ≤ 65536; omega
    | 1, _ => show 0 ≤ Z ∧ Z ≤ 65536; omega
    | 2, _ => show 0 ≤ R ∧ R ≤ 65536; omega
    | 3, _ => show 0 ≤ W ∧ W ≤ 65536; omega
    | 4, _ => show 0 ≤ K ∧ K ≤ 65536; omega
    | 5, _ => show 0 ≤ V ∧ V ≤ 65536; omega
  · rw [h] at h'; cases h'
/-- A text is read as its configuration. -/
theorem text_good {S Z R W K V P : Int} {s : ByteArray} (hE : cfgE S Z R W K V P = 0) (h : s.data.toList = textL S Z R W K V P) : goodW (wordsL s) ∧ cfgOf (wordsL s) = cfgV S Z R W K V P := by
  obtain ⟨hL, hP⟩ := small_nums hE
  have hw := text_words h
  have n0 := numL_dig [S, Z, R, W, K, V] (polS P) 0 (by decide) (hL 0 (by decide))
  have n1 := numL_dig [S, Z, R, W, K, V] (polS P) 1 (by decide) (hL 1 (by decide))
  have n2 := numL_dig [S, Z, R, W, K, V] (polS P) 2 (by decide) (hL 2 (by decide))
  have n3 := numL_dig [S, Z, R, W, K, V] (polS P) 3 (by decide) (hL 3 (by decide))
  have n4 := numL_dig [S, Z, R, W, K, V] (polS P) 4 (by decide) (hL 4 (by decide))
  have n5 := numL_dig [S, Z, R, W, K, V] (polS P) 5 (by decide) (hL 5 (by decide))
  have l0 : 0 ≤ S := (hL 0 (by decide)).1
  have l1 : 0 ≤ Z := (hL 1 (by decide)).1
  have l2 : 0 ≤ R := (hL 2 (by decide)).1
  have l3 : 0 ≤ W := (hL 3 (by decide)).1
  have l4 : 0 ≤ K := (hL 4 (by decide)).1
  have l5 : 0 ≤ V := (hL 5 (by decide)).1
  have e0 : ((numL (wordsL s) 0).1 : Int) = S := by rw [hw, n0]; exact Int.toNat_of_nonneg l0
  have e1 : ((numL (wordsL s) 1).1 : Int) = Z := by rw [hw, n1]; exact Int.toNat_of_nonneg l1
  have e2 : ((numL (wordsL s) 2).1 : Int) = R := by rw [hw, n2]; exact Int.toNat_of_nonneg l2
  have e3 : ((numL (wordsL s) 3).1 : Int) = W := by rw [hw, n3]; exact Int.toNat_of_nonneg l3
  have e4 : ((numL (wordsL s) 4).1 : Int) = K := by rw [hw, n4]; exact Int.toNat_of_nonneg l4
  have e5 : ((numL (wordsL s) 5).1 : Int) = V := by rw [hw, n5]; exact Int.toNat_of_nonneg l5
  have e6 : polN ((wordsL s).getD 6 ⟨#[]⟩) = P := by
    rw [hw, List.getD, List.getElem?_append_right (by rw [digW_length]; exact Nat.le_refl _), digW_length]
    exact polN_S hP
  refine ⟨⟨by rw [hw]; simp [digW_length], fun i hi => ?_, by rw [e0, e1, e2, e3, e4, e5, e6]; exact hE⟩, by unfold cfgOf; rw [e0, e1, e2, e3, e4, e5, e6]⟩
  unfold numOK
  rw [hw, numL_dig _ _ i hi (hL i hi)]
  exact ⟨rfl, by have := hL i hi; omega⟩
theorem num_back {xs : List ByteArray} {i : Nat} (h : numOK xs i) : (⟨(Lib.decDigits (numL xs i).1).toArray⟩ : ByteArray) = xs.getD i ⟨#[]⟩ := by
  obtain ⟨h1, h2⟩ := h
  unfold numL at *
  rcases digV_tells (xs.getD i ⟨#[]⟩).data.toList with e | e | ⟨n, _, e, hn⟩
  · rw [e] at h1; cases h1
  · rw [e] at h1; cases h1
  · rw [e]
    show (⟨(Lib.decDigits n).toArray⟩ : ByteArray) = _
    rw [hn]
/-- What is read has this text. -/
theorem good_text {s : ByteArray} (h : goodW (wordsL s)) : s.data.toList = textL ((numL (wordsL s) 0).1 : Int) ((numL (wordsL s) 1).1 : Int) ((numL (wordsL s) 2).1 : Int) ((numL (wordsL s) 3).1 : Int) ((numL (wordsL s) 4).1 : Int) ((numL (wordsL s) 5).1 : Int) (polN ((wordsL s).getD 6 ⟨#[]⟩)) := by
  obtain ⟨h7, hn, hE⟩ := h
  have hP := (small_nums hE).2
  rw [← wordsL_join s]
  generalize wordsL s = xs at *
  unfold textL
  have b0 := num_back (hn 0 (by decide))
  have b1 := num_back (hn 1 (by decide))
  have b2 := num_back (hn 2 (by decide))
  have b3 := num_back (hn 3 (by decide))
  have b4 := num_back (hn 4 (by decide))
  have b5 := num_back (hn 5 (by decide))
  have b6 := polS_N (x := xs.getD 6 ⟨#[]⟩) (by omega)
  congr 2
  rw [b6]
  match xs, h7 with
  | [x0, x1, x2, x3, x4, x5, x6], _ =>
    show _ = [digS _ 0, digS _ 1, digS _ 2, digS _ 3, digS _ 4, digS _ 5] ++ [_]
    have c0 : digS [((numL [x0, x1, x2, x3, x4, x5, x6] 0).1 : Int), ((numL [x0, x1, x2, x3, x4, x5, x6] 1).1 : Int), ((numL [x0, x1, x2, x3, x4, x5, x6] 2).1 : Int), ((numL [x0, x1, x2, x3, x4, x5, x6] 3).1 : Int), ((numL [x0, x1, x2, x3, x4, x5, x6] 4).1 : Int), ((numL [x0, x1, x2, x3, x4, x5, x6] 5).1 : Int)] 0 = x0 := b0
    have c1 : digS [((numL [x0, x1, x2, x3, x4, x5, x6] 0).1 : Int), ((numL [x0, x1, x2, x3, x4, x5, x6] 1).1 : Int), ((numL [x0, x1, x2, x3, x4, x5, x6] 2).1 : Int), ((numL [x0, x1, x2, x3, x4, x5, x6] 3).1 : Int), ((numL [x0, x1, x2, x3, x4, x5, x6] 4).1 : Int), ((numL [x0, x1, x2, x3, x4, x5, x6] 5).1 : Int)] 1 = x1 := b1
    have c2 : digS [((numL [x0, x1, x2, x3, x4, x5, x6] 0).1 : Int), ((numL [x0, x1, x2, x3, x4, x5, x6] 1).1 : Int), ((numL [x0, x1, x2, x3, x4, x5, x6] 2).1 : Int), ((numL [x0, x1, x2, x3, x4, x5, x6] 3).1 : Int), ((numL [x0, x1, x2, x3, x4, x5, x6] 4).1 : Int), ((numL [x0, x1, x2, x3, x4, x5, x6] 5).1 : Int)] 2 = x2 := b2
    have c3 : digS [((numL [x0, x1, x2, x3, x4, x5, x6] 0).1 : Int), ((numL [x0, x1, x2, x3, x4, x5, x6] 1).1 : Int), ((numL [x0, x1, x2, x3, x4, x5, x6] 2).1 : Int), ((numL [x0, x1, x2, x3, x4, x5, x6] 3).1 : Int), ((numL [x0, x1, x2, x3, x4, x5, x6] 4).1 : Int), ((numL [x0, x1, x2, x3, x4, x5, x6] 5).1 : Int)] 3 = x3 := b3
    have c4 : digS [((numL [x0, x1, x2, x3, x4, x5, x6] 0).1 : Int), ((numL [x0, x1, x2, x3, x4, x5, x6] 1).1 : Int), ((numL [x0, x1, x2, x3, x4, x5, x6] 2).1 : Int), ((numL [x0, x1, x2, x3, x4, x5, x6] 3).1 : Int), ((numL [x0, x1, x2, x3, x4, x5, x6] 4).1 : Int), ((numL [x0, x1, x2, x3, x4, x5, x6] 5).1 : Int)] 4 = x4 := b4
    have c5 : digS [((numL [x0, x1, x2, x3, x4, x5, x6] 0).1 : Int), ((numL [x0, x1, x2, x3, x4, x5, x6] 1).1 : Int), ((numL [x0, x1, x2, x3, x4, x5, x6] 2).1 : Int), ((numL [x0, x1, x2, x3, x4, x5, x6] 3).1 : Int), ((numL [x0, x1, x2, x3, x4, x5, x6] 4).1 : Int), ((numL [x0, x1, x2, x3, x4, x5, x6] 5).1 : Int)] 5 = x5 := b5
    rw [c0, c1, c2, c3, c4, c5]
    rfl
end Go.Proofs.YtllgnogiicdhfaaDoor
