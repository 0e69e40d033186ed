/-
  Plain Lean, no program: texts of configurations that are changed are not read.
  Conditions: none.
-/
import Derived.Test.YtllgnogiicdhfaaDoorWorks17
import Derived.Test.YtllgnogiicdhfaaDoorWalks17b
set_option linter.unusedVariables false
namespace Go.Proofs.YtllgnogiicdhfaaDoor
open Go Go.RowKit

theorem wl_app2 : ∀ (a b : List UInt8), wl (a ++ 32 :: b) = wl a ++ wl b
  | [], b => by rw [List.nil_append, wl_space]; rfl
  | c :: a, b => by
    by_cases hc : c = 32
    · rw [hc, List.cons_append, wl_space, wl_space, wl_app2 a b]; rfl
    · have ih := wl_app2 a b
      cases hw : wl a with
      | nil => exact absurd hw (wl_ne a)
      | cons x t =>
        rw [hw] at ih
        rw [List.cons_append, wl_cons hc (by rw [ih]; rfl), wl_cons hc hw]
        rfl
theorem bad_len {xs : List ByteArray} (h : xs.length ≠ 7) : ¬ goodW xs := fun g => h g.1
theorem words_len (s : ByteArray) : (wordsL s).length = (wl s.data.toList).length := by rw [← wordsL_data, List.length_map]
theorem app_data (a b : ByteArray) : (a ++ b).data.toList = a.data.toList ++ b.data.toList := by simp
theorem join_len (k : Nat) : ∀ l : List (List UInt8), (∀ x ∈ l, x.length ≤ k) → (Lib.join l [32]).length ≤ (k + 1) * l.length
  | [], _ => by simp [Lib.join]
  | [x], h => by
    rw [Lib.join_one]
    have := h x (by simp)
    simp; omega
  | x :: y :: t, h => by
    have ih := join_len k (y :: t) fun z hz => h z (List.mem_cons_of_mem _ hz)
    have := h x (by simp)
    rw [join_two, List.length_append, List.length_cons]
    rw [List.length_cons (a := x), Nat.mul_succ]
    omega
section
variable {S Z R W K V P : Int} {s : ByteArray}
theorem text_wl7 (h : s.data.toList = textL S Z R W K V P) : (wl s.data.toList).length = 7 := by
  rw [← words_len, text_words h]; simp [digW_length]
theorem back1 (h : s.data.toList = textL S Z R W K V P) : ¬ goodW (wordsL (s ++ ⟨#[32]⟩)) := by
  apply bad_len
  rw [words_len, app_data]
  show (wl (s.data.toList ++ 32 :: [])).length ≠ 7
  rw [wl_app2, List.length_append, text_wl7 h]
  decide
theorem back2 (h : s.data.toList = textL S Z R W K V P) : ¬ goodW (wordsL (s ++ ⟨#[32, 49]⟩)) := by
  apply bad_len
  rw [words_len, app_data]
  show (wl (s.data.toList ++ 32 :: [49])).length ≠ 7
  rw [wl_app2, List.length_append, text_wl7 h]
  decide
theorem back3 (h : s.data.toList = textL S Z R W K V P) : ¬ goodW (wordsL (⟨#[32]⟩ ++ s)) := by
  apply bad_len
  rw [words_len, app_data]
  show (wl ([] ++ 32 :: s.data.toList)).length ≠ 7
  rw [wl_app2, List.length_append, text_wl7 h]
  decide
/-- The seven words. -/
def ws7 (S Z R W K V P : Int) : List ByteArray := digW [S, Z, R, W, K, V] 6 ++ [polS P]
theorem ws7_len : (ws7 S Z R W K V P).length = 7 := by simp [ws7, digW_length]
theorem ws7_take : (ws7 S Z R W K V P).take 6 = digW [S, Z, R, W, K, V] 6 := by
  unfold ws7
  rw [List.take_append_of_le_length (by rw [digW_length]; exact Nat.le_refl _), List.take_of_length_le (by rw [digW_length]; exact Nat.le_refl _)]
theorem back0 {t : ByteArray} (h : t.data.toList = Lib.join ((digW [S, Z, R, W, K, V] 6).map (·.data.toList)) [32]) : ¬ goodW (wordsL t) := by
  apply bad_len
  rw [wordsL_of (digW [S, Z, R, W, K, V] 6) (by intro he; have := congrArg List.length he; rw [digW_length] at this; cases this) (fun x hx => digW_nospace [S, Z, R, W, K, V] 1 6 x (List.mem_append_left _ hx)) t h, digW_length]
  decide
/-- A word with a zero ahead. -/
def zeroS (x : ByteArray) : ByteArray := ⟨#[48]⟩ ++ x
theorem zeroS_data (x : ByteArray) : (zeroS x).data.toList = 48 :: x.data.toList := by
  unfold zeroS
  rw [app_data]; rfl
theorem back4 (hE : cfgE S Z R W K V P = 0) {t : ByteArray} (k : Nat) (hk : k < 7) (h : t.data.toList = Lib.join (((ws7 S Z R W K V P).set k (zeroS ((ws7 S Z R W K V P).getD k ⟨#[]⟩))).map (·.data.toList)) [32]) : ¬ goodW (wordsL t) := by
  have hsp : ∀ x ∈ ws7 S Z R W K V P, (32 : UInt8) ∉ x.data.toList := digW_nospace [S, Z, R, W, K, V] P 6
  have hw : wordsL t = (ws7 S Z R W K V P).set k (zeroS ((ws7 S Z R W K V P).getD k ⟨#[]⟩)) := by
    refine wordsL_of _ (by intro he; have := congrArg List.length he; rw [List.length_set, ws7_len] at this; cases this) (fun x hx => ?_) t h
    rcases List.mem_or_eq_of_mem_set hx with hx | rfl
    · exact hsp x hx
    · rw [zeroS_data, List.mem_cons]
      rintro (he | he)
      · cases he
      · refine hsp _ ?_ he
        rw [List.getD, List.getElem?_eq_getElem (by rw [ws7_len]; exact hk)]
        exact List.getElem_mem _
  intro hg
  rw [hw] at hg
  have hget : ((ws7 S Z R W K V P).set k (zeroS ((ws7 S Z R W K V P).getD k ⟨#[]⟩))).getD k ⟨#[]⟩ = zeroS ((ws7 S Z R W K V P).getD k ⟨#[]⟩) := by
    rw [List.getD, List.getElem?_set_self (by rw [ws7_len]; exact hk)]; rfl
  by_cases h6 : k < 6
  · have h1 := (hg.2.1 k h6).1
    unfold numL at h1
    rw [hget, zeroS_data] at h1
    have hd : (ws7 S Z R W K V P).getD k ⟨#[]⟩ = digS [S, Z, R, W, K, V] k := digW_getD _ _ 6 k h6
    rw [hd] at h1
    have hl := dec_lead ([S, Z, R, W, K, V].getD k 0).toNat
    have hne : (digS [S, Z, R, W, K, V] k).data.toList ≠ [] := by
      intro he
      have he2 : Lib.decDigits ([S, Z, R, W, K, V].getD k 0).toNat = [] := he
      rw [he2] at hl
      cases hl
    have hld : lead (48 :: (digS [S, Z, R, W, K, V] k).data.toList) = true := by
      unfold lead
      have : 1 < (48 :: (digS [S, Z, R, W, K, V] k).data.toList).length := by
        have := List.length_pos_iff.2 hne
        rw [List.length_cons]; omega
      rw [decide_eq_true this]
      simp
    rw [digV_lead hld] at h1
    cases h1
  · obtain rfl : k = 6 := by omega
    have h1 := (small_nums hg.2.2).2
    rw [hget] at h1
    have hd : (ws7 S Z R W K V P).getD 6 ⟨#[]⟩ = polS P := by
      unfold ws7
      rw [List.getD, List.getElem?_append_right (by rw [digW_length]; exact Nat.le_refl _), digW_length]
      rfl
    rw [hd] at h1
    have h2 : polN (zeroS (polS P)) = 0 := by
      unfold polS
      split <;> decide
    rw [h2] at h1
    omega
end
end Go.Proofs.YtllgnogiicdhfaaDoor
