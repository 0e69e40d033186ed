/-
  The order of keys and the next key, in plain Lean.
  Conditions: none.
-/
import Derived.Test.YthmbcjladgnigaaDoorKeyN
set_option linter.unusedVariables false
namespace Go.Proofs.YthmbcjladgnigaaDoor
open Go Go.RowKit
open Go.Lib (compareBytes)

theorem cmp_nil_left (b : List UInt8) : compareBytes [] b = if b.length = 0 then 0 else -1 := by cases b <;> simp [compareBytes]
theorem cmp_cons (x y : UInt8) (r t : List UInt8) : compareBytes (x :: r) (y :: t) = if x.toNat < y.toNat then -1 else if y.toNat < x.toNat then 1 else compareBytes r t := by
  simp only [compareBytes, u8_lt]
theorem cmp_swap : ∀ (a b : List UInt8), compareBytes b a = - compareBytes a b
  | [], [] => rfl
  | [], _ :: _ => rfl
  | _ :: _, [] => rfl
  | x :: r, y :: t => by
    have ih := cmp_swap r t
    rw [cmp_cons, cmp_cons, ih]
    by_cases h1 : x.toNat < y.toNat
    · rw [if_neg (by omega), if_pos h1, if_pos h1]; rfl
    · by_cases h2 : y.toNat < x.toNat
      · rw [if_pos h2, if_neg h1, if_pos h2]
      · rw [if_neg h2, if_neg h1, if_neg h1, if_neg h2]
theorem cmp_range : ∀ (a b : List UInt8), compareBytes a b = -1 ∨ compareBytes a b = 0 ∨ compareBytes a b = 1
  | [], [] => Or.inr (Or.inl rfl)
  | [], _ :: _ => Or.inl rfl
  | _ :: _, [] => Or.inr (Or.inr rfl)
  | x :: r, y :: t => by
    have ih := cmp_range r t
    rw [cmp_cons]
    split
    · exact Or.inl rfl
    · split
      · exact Or.inr (Or.inr rfl)
      · exact ih
theorem cmp_zero : ∀ (a b : List UInt8), compareBytes a b = 0 ↔ a = b
  | [], [] => by simp [compareBytes]
  | [], _ :: _ => by simp [compareBytes]
  | _ :: _, [] => by simp [compareBytes]
  | x :: r, y :: t => by
    have ih := cmp_zero r t
    rw [cmp_cons]
    by_cases h1 : x.toNat < y.toNat
    · rw [if_pos h1]
      constructor
      · intro h; cases h
      · intro h; simp at h; rw [h.1] at h1; omega
    · by_cases h2 : y.toNat < x.toNat
      · rw [if_neg h1, if_pos h2]
        constructor
        · intro h; cases h
        · intro h; simp at h; rw [h.1] at h2; omega
      · rw [if_neg h1, if_neg h2, ih]
        have hxy : x = y := UInt8.toNat_inj.1 (by omega)
        simp [hxy]
theorem cmp_trans : ∀ (a b c : List UInt8), compareBytes a b ≤ 0 → compareBytes b c ≤ 0 → compareBytes a c ≤ 0 ∧ ((compareBytes a b < 0 ∨ compareBytes b c < 0) → compareBytes a c < 0)
  | [], b, [], h1, h2 => by
    cases b with
    | nil => simp [compareBytes]
    | cons y t => simp [compareBytes] at h2
  | [], b, z :: u, _, _ => by simp [compareBytes]
  | x :: r, [], c, h1, _ => by simp [compareBytes] at h1
  | x :: r, y :: t, [], _, h2 => by simp [compareBytes] at h2
  | x :: r, y :: t, z :: u, h1, h2 => by
    rw [cmp_cons] at h1 h2
    rw [cmp_cons, cmp_cons, cmp_cons]
    have ih := cmp_trans r t u
    by_cases a1 : x.toNat < y.toNat
    · by_cases a2 : z.toNat < y.toNat
      · rw [if_neg (by omega), if_pos a2] at h2; omega
      · rw [if_pos a1, if_pos (show x.toNat < z.toNat by omega)]; omega
    · by_cases a3 : y.toNat < x.toNat
      · rw [if_neg a1, if_pos a3] at h1; omega
      · rw [if_neg a1, if_neg a3] at h1
        rw [if_neg a1, if_neg a3]
        by_cases a4 : y.toNat < z.toNat
        · rw [if_pos (show x.toNat < z.toNat by omega)]; omega
        · by_cases a5 : z.toNat < y.toNat
          · rw [if_neg a4, if_pos a5] at h2; omega
          · rw [if_neg a4, if_neg a5] at h2
            rw [if_neg (show ¬ x.toNat < z.toNat by omega), if_neg (show ¬ z.toNat < x.toNat by omega), if_neg a4, if_neg a5]
            exact ih h1 h2
theorem key_mem {c : UInt8} (h : isKey c = true) : c ∈ keyL := by
  obtain ⟨_, f2, _, f4⟩ := isKey_facts h
  rw [← f4]
  have hlt : (Lib.indexByte keyL c).toNat < keyL.length := by
    unfold isKey at h
    rw [decide_eq_true_iff] at h
    show _ < 39
    omega
  rw [List.getD, List.getElem?_eq_getElem hlt]
  exact List.getElem_mem _
theorem key_least : ∀ x ∈ keyL, 45 ≤ x.toNat ∧ x.toNat ≤ 122 := by decide +kernel
theorem succ_least : ∀ x ∈ keyL, x = 122 ∨ (x.toNat < (succK x).toNat ∧ isKey (succK x) = true ∧ ∀ y ∈ keyL, x.toNat < y.toNat → (succK x).toNat ≤ y.toNat) := by decide +kernel
def allKey (l : List UInt8) : Prop := ∀ x ∈ l, isKey x = true
theorem allKey_of {l : List UInt8} (h : l.all isKey = true) : allKey l := fun x hx => by rw [List.all_eq_true] at h; exact h x hx
theorem cmp_short : ∀ (s : List UInt8), compareBytes s (s ++ [45]) = -1
  | [] => rfl
  | x :: r => by
    have ih := cmp_short r
    rw [List.cons_append, cmp_cons, if_neg (Nat.lt_irrefl _), if_neg (Nat.lt_irrefl _)]
    exact ih
theorem cmp_long : ∀ (p zs : List UInt8) (c d : UInt8), c.toNat < d.toNat → compareBytes (p ++ c :: zs) (p ++ [d]) = -1
  | [], zs, c, d, h => by rw [List.nil_append, List.nil_append, cmp_cons, if_pos h]
  | x :: r, zs, c, d, h => by
    have ih := cmp_long r zs c d h
    rw [List.cons_append, List.cons_append, cmp_cons, if_neg (Nat.lt_irrefl _), if_neg (Nat.lt_irrefl _)]
    exact ih
theorem next_short : ∀ (s t : List UInt8), allKey t → 0 < compareBytes t s → compareBytes (s ++ [45]) t ≤ 0
  | [], [], _, h => by simp [compareBytes] at h
  | [], x :: r, hk, _ => by
    have hx := key_least x (key_mem (hk x (by simp)))
    rw [List.nil_append, cmp_cons]
    by_cases h1 : (45 : UInt8).toNat < x.toNat
    · rw [if_pos h1]; omega
    · rw [if_neg h1]
      have h45 : (45 : UInt8).toNat = 45 := rfl
      rw [if_neg (by omega), cmp_nil_left]
      split <;> omega
  | y :: s, [], _, h => by simp [compareBytes] at h
  | y :: s, x :: r, hk, h => by
    rw [cmp_cons] at h
    rw [List.cons_append, cmp_cons]
    by_cases h1 : x.toNat < y.toNat
    · rw [if_pos h1] at h; omega
    · by_cases h2 : y.toNat < x.toNat
      · rw [if_pos h2]; omega
      · rw [if_neg h1, if_neg h2] at h
        rw [if_neg h2, if_neg h1]
        exact next_short s r (fun z hz => hk z (by simp [hz])) h
theorem cmp_top : ∀ (r zs : List UInt8), allKey r → (∀ z ∈ zs, z = 122) → r.length ≤ zs.length → compareBytes r zs ≤ 0
  | [], zs, _, _, _ => by rw [cmp_nil_left]; split <;> omega
  | x :: r, [], _, _, h => by simp at h
  | x :: r, z :: zs, hk, hz, h => by
    have hx := key_least x (key_mem (hk x (by simp)))
    have h1 := hz z (by simp)
    subst h1
    have h122 : (122 : UInt8).toNat = 122 := rfl
    rw [cmp_cons]
    by_cases h2 : x.toNat < (122 : UInt8).toNat
    · rw [if_pos h2]; omega
    · rw [if_neg h2, if_neg (by omega)]
      exact cmp_top r zs (fun y hy => hk y (by simp [hy])) (fun y hy => hz y (by simp [hy])) (by simpa using h)
theorem next_long : ∀ (p zs t : List UInt8) (c : UInt8), isKey c = true → c ≠ 122 → allKey t → (∀ z ∈ zs, z = 122) → t.length ≤ p.length + 1 + zs.length → 0 < compareBytes t (p ++ c :: zs) → compareBytes (p ++ [succK c]) t ≤ 0
  | [], zs, [], c, _, _, _, _, _, h => by simp [compareBytes] at h
  | [], zs, x :: r, c, hc, h122, hk, hz, hl, h => by
    rw [List.nil_append, cmp_cons] at h
    rw [List.nil_append, cmp_cons]
    rcases succ_least c (key_mem hc) with he | ⟨h1, _, h3⟩
    · exact absurd he h122
    · by_cases h4 : x.toNat < c.toNat
      · rw [if_pos h4] at h; omega
      · by_cases h5 : c.toNat < x.toNat
        · have h6 := h3 x (key_mem (hk x (by simp))) h5
          by_cases h7 : (succK c).toNat < x.toNat
          · rw [if_pos h7]; omega
          · rw [if_neg h7, if_neg (by omega), cmp_nil_left]
            split <;> omega
        · rw [if_neg h4, if_neg h5] at h
          have := cmp_top r zs (fun y hy => hk y (by simp [hy])) hz (by simp at hl; omega)
          omega
  | y :: p, zs, [], c, _, _, _, _, _, h => by simp [compareBytes] at h
  | y :: p, zs, x :: r, c, hc, h122, hk, hz, hl, h => by
    rw [List.cons_append, cmp_cons] at h
    rw [List.cons_append, cmp_cons]
    by_cases h1 : x.toNat < y.toNat
    · rw [if_pos h1] at h; omega
    · by_cases h2 : y.toNat < x.toNat
      · rw [if_pos h2]; omega
      · rw [if_neg h1, if_neg h2] at h
        rw [if_neg h2, if_neg h1]
        exact next_long p zs r c hc h122 (fun z hz => hk z (by simp [hz])) hz (by simp at hl; omega) h
/-- All that is claimed of the next key. -/
theorem next_tells {s : List UInt8} (h : keyV s = 0) :
    ((nextV s).2 = true ∧ s ≠ List.replicate 32 122 ∧ keyV (nextV s).1 = 0 ∧ compareBytes s (nextV s).1 = -1 ∧ ∀ t, keyV t = 0 → compareBytes t s ≤ 0 ∨ compareBytes (nextV s).1 t ≤ 0) ∨
    (nextV s = ([], false) ∧ s = List.replicate 32 122 ∧ ∀ t, keyV t = 0 → compareBytes t s ≤ 0) := by
  obtain ⟨ha, h0, h32⟩ := keyV_zero h
  by_cases h1 : s.length < 32
  · refine Or.inl ?_
    rw [nextV_short h h1]
    refine ⟨rfl, fun he => by rw [he] at h1; simp at h1, ?_, cmp_short s, fun t ht => ?_⟩
    · refine keyV_ok ?_ (by simp) (by simp; omega)
      rw [List.all_append, ha]
      decide +kernel
    · rcases Int.lt_or_le 0 (compareBytes t s) with hc | hc
      · exact Or.inr (next_short s t (allKey_of (keyV_zero ht).1) hc)
      · exact Or.inl hc
  · have hl : s.length = 32 := by omega
    obtain ⟨t1, t2, t3, _⟩ := tn_spec s
    by_cases hz : tn s = 0
    · refine Or.inr ⟨nextV_last h h1 hz, ?_, fun t ht => ?_⟩
      · rw [List.eq_replicate_iff]
        refine ⟨hl, fun b hb => ?_⟩
        obtain ⟨j, hj, rfl⟩ := List.getElem_of_mem hb
        have := t2 j (by omega) hj
        rwa [List.getD, List.getElem?_eq_getElem hj] at this
      · refine cmp_top t s (allKey_of (keyV_zero ht).1) (fun z hz' => ?_) (by have := (keyV_zero ht).2.2; omega)
        obtain ⟨j, hj, rfl⟩ := List.getElem_of_mem hz'
        have := t2 j (by omega) hj
        rwa [List.getD, List.getElem?_eq_getElem hj] at this
    · refine Or.inl ?_
      rw [nextV_succ h h1 hz]
      obtain ⟨i, hi⟩ : ∃ i, tn s = i + 1 := ⟨tn s - 1, by omega⟩
      rw [hi] at t1 t2 t3 ⊢
      have t3 := t3 (by omega)
      rw [Nat.add_sub_cancel] at t3 ⊢
      have hil : i < s.length := by omega
      have hg : s.getD i 0 = s[i] := by rw [List.getD, List.getElem?_eq_getElem hil]; rfl
      have hs : s = s.take i ++ s.getD i 0 :: s.drop (i + 1) := by rw [hg, ← List.drop_eq_getElem_cons hil, List.take_append_drop]
      have hzs : ∀ z ∈ s.drop (i + 1), z = 122 := by
        intro z hz'
        obtain ⟨j, hj, rfl⟩ := List.getElem_of_mem hz'
        have hjl : i + 1 + j < s.length := by rw [List.length_drop] at hj; omega
        have := t2 (i + 1 + j) (by omega) hjl
        rw [List.getD, List.getElem?_eq_getElem hjl] at this
        rw [List.getElem_drop]
        exact this
      have hc : isKey (s.getD i 0) = true := all_get ha i hil
      obtain ⟨c, hce⟩ : ∃ c, s.getD i 0 = c := ⟨_, rfl⟩
      rw [hce] at hs hc t3 ⊢
      rcases succ_least c (key_mem hc) with he | ⟨g1, g2, g3⟩
      · exact absurd he t3
      refine ⟨rfl, fun he => ?_, ?_, ?_, fun t ht => ?_⟩
      · rw [he] at hce
        rw [List.getD, List.getElem?_replicate, if_pos (by omega)] at hce
        exact t3 hce.symm
      · refine keyV_ok ?_ (by simp) (by rw [List.length_append, List.length_take, List.length_singleton]; omega)
        rw [List.all_append, List.all_cons, List.all_nil, g2, Bool.and_true, Bool.and_true, List.all_eq_true]
        intro x hx
        rw [List.all_eq_true] at ha
        exact ha x (List.mem_of_mem_take hx)
      · have := cmp_long (s.take i) (s.drop (i + 1)) c (succK c) g1
        rwa [← hs] at this
      · rcases Int.lt_or_le 0 (compareBytes t s) with hcm | hcm
        · refine Or.inr (next_long (s.take i) (s.drop (i + 1)) t c hc t3 (allKey_of (keyV_zero ht).1) hzs ?_ (by rw [← hs]; exact hcm))
          have := (keyV_zero ht).2.2
          rw [List.length_take, List.length_drop]
          omega
        · exact Or.inl hcm
end Go.Proofs.YthmbcjladgnigaaDoor
