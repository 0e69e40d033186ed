/-
  Plain Lean, no program: the text of a plan, and what the reference makes of a string.
  Conditions: none.
-/
import Derived.Test.YtoceeegdbnigeaaDoorRead
set_option linter.unusedVariables false
namespace Go.Proofs.YtoceeegdbnigeaaDoor
open Go Go.RowKit

def dS (k : Int) : List UInt8 := Lib.decDigits k.toNat
def doneL (d : Bool) : List UInt8 := [if d = true then 121 else 110]
def keepT (L : List Int) : List UInt8 := Lib.join (L.map dS) [44]
/-- The text of a plan. -/
def textB (A : Int) (d : Bool) (L : List Int) : List UInt8 := Lib.join [dS A, doneL d, keepT L] [32]
theorem textB_eq (A : Int) (d : Bool) (L : List Int) : textB A d L = dS A ++ 32 :: (if d = true then 121 else 110) :: 32 :: keepT L := by
  unfold textB
  rw [joinc_two, joinc_two, Lib.join_one]
  rfl
theorem dS_digits (k : Int) : ∀ c ∈ dS k, 48 ≤ c.toNat ∧ c.toNat ≤ 57 := by
  intro c hc
  have h := dec_allDig k.toNat
  unfold allDig at h
  rw [List.all_eq_true] at h
  exact (isDig_iff c).1 (h c hc)
theorem dS_no (k : Int) (c : UInt8) (h : c.toNat < 48 ∨ 57 < c.toNat) : c ∉ dS k := fun hc => by
  have := dS_digits k c hc
  omega
theorem join_no (ws : List (List UInt8)) (d c : UInt8) (hd : d ≠ c) (h : ∀ x ∈ ws, c ∉ x) : c ∉ Lib.join ws [d] := by
  induction ws with
  | nil => simp [Lib.join]
  | cons x r ih =>
    cases r with
    | nil => rw [Lib.join_one]; exact h x (by simp)
    | cons y t =>
      rw [joinc_two]
      intro hm
      rw [List.mem_append, List.mem_cons] at hm
      rcases hm with hm | hm | hm
      · exact h x (by simp) hm
      · exact hd hm.symm
      · exact ih (fun z hz => h z (by simp [hz])) hm
theorem keepT_no (L : List Int) : (32 : UInt8) ∉ keepT L := by
  unfold keepT
  refine join_no _ _ _ (by decide) fun x hx => ?_
  rw [List.mem_map] at hx
  obtain ⟨k, _, rfl⟩ := hx
  exact dS_no k 32 (by decide)
theorem done_no (d : Bool) : (32 : UInt8) ∉ doneL d := by cases d <;> decide
theorem planOK_parts {A : Int} {L : List Int} (h : planOK A L = true) : 0 ≤ A ∧ A ≤ 1000000 ∧ 1 ≤ L.length ∧ L.length ≤ 34 ∧ ∀ k ∈ L, 0 ≤ k ∧ k ≤ 8192 := by
  unfold planOK inB at h
  simp only [Bool.and_eq_true, decide_eq_true_iff, Bool.not_eq_true'] at h
  obtain ⟨⟨⟨a, b⟩, c, d⟩, e⟩ := h
  refine ⟨a, b, c, d, fun k hk => ?_⟩
  have h2 : outB k = false := by
    cases ho : outB k with
    | false => rfl
    | true => rw [List.any_eq_true.2 ⟨k, hk, ho⟩] at e; cases e
  unfold outB inB at h2
  simpa using h2
theorem planOK_of {A : Int} {L : List Int} (h : 0 ≤ A ∧ A ≤ 1000000 ∧ 1 ≤ L.length ∧ L.length ≤ 34 ∧ ∀ k ∈ L, 0 ≤ k ∧ k ≤ 8192) : planOK A L = true := by
  obtain ⟨a, b, c, d, e⟩ := h
  unfold planOK inB
  simp only [Bool.and_eq_true, decide_eq_true_iff, Bool.not_eq_true']
  refine ⟨⟨⟨a, b⟩, c, d⟩, ?_⟩
  rw [List.any_eq_false]
  intro k hk
  have := e k hk
  unfold outB inB
  simpa using this
theorem numN_dec {s : ByteArray} {n : Nat} (h : s.data.toList = Lib.decDigits n) (hn : n ≤ 1000000) : numN s = n := by
  unfold numN
  rw [h, digV_dec (by have hM : M64 = 18446744073709551616 := rfl
                      omega)]
theorem pcS_text {s : ByteArray} {A : Int} {d : Bool} {L : List Int} (hs : s.data.toList = textB A d L) : pcS 32 s = [pack (dS A), pack (doneL d), pack (keepT L)] := by
  unfold pcS
  rw [hs, textB, pc_of_join _ (by simp) (by
    intro x hx
    simp only [List.mem_cons, List.not_mem_nil, or_false] at hx
    rcases hx with rfl | rfl | rfl
    · exact dS_no A 32 (by decide)
    · exact done_no d
    · exact keepT_no L)]
  rfl
theorem pcS_keep {L : List Int} (h : 1 ≤ L.length) : pcS 44 (pack (keepT L)) = L.map fun k => pack (dS k) := by
  unfold pcS
  rw [pack_data, keepT, pc_of_join _ (by intro h0; rw [List.map_eq_nil_iff] at h0; rw [h0] at h; simp at h) (by
    intro x hx
    rw [List.mem_map] at hx
    obtain ⟨k, _, rfl⟩ := hx
    exact dS_no k 44 (by decide)), List.map_map]
  rfl
/-- The text of a valid plan is the string of that plan. -/
theorem good_text {s : ByteArray} {A : Int} {d : Bool} {L : List Int} (hp : planOK A L = true) (hs : s.data.toList = textB A d L) : goodP s ∧ (numN (w3 s 0) : Int) = A ∧ decide (w3 s 1 = yS) = d ∧ kepL s = L := by
  obtain ⟨h0, h1, h2, h3, h4⟩ := planOK_parts hp
  have hw := pcS_text hs
  have e0 : w3 s 0 = pack (dS A) := by unfold w3; rw [hw]; rfl
  have e1 : w3 s 1 = pack (doneL d) := by unfold w3; rw [hw]; rfl
  have e2 : w3 s 2 = pack (keepT L) := by unfold w3; rw [hw]; rfl
  have hk : kepS s = L.map fun k => pack (dS k) := by unfold kepS; rw [e2, pcS_keep h2]
  have hn : ∀ k : Int, 0 ≤ k ∧ k ≤ 1000000 → (numN (pack (dS k)) : Int) = k := fun k hk => by
    have h := numN_dec (s := pack (dS k)) (n := k.toNat) (pack_data _) (by omega)
    omega
  refine ⟨⟨⟨by rw [hw]; rfl, ?_⟩, ?_, ?_, by rw [hk, List.length_map]; exact h3⟩, by rw [e0]; exact hn A ⟨h0, h1⟩, ?_, ?_⟩
  · rw [e1]; cases d
    · exact Or.inr rfl
    · exact Or.inl rfl
  · rw [e0]; exact numG_of (n := A.toNat) (pack_data _) (by omega) (by omega)
  · intro j hj
    rw [hk] at hj ⊢
    rw [List.length_map] at hj
    rw [List.getD, List.getElem?_map, List.getElem?_eq_getElem hj]
    have := h4 L[j] (List.getElem_mem hj)
    exact numG_of (n := L[j].toNat) (pack_data _) (by omega) (by omega)
  · rw [e1]; cases d <;> decide
  · unfold kepL
    rw [hk, List.map_map]
    conv => rhs; rw [← List.map_id L]
    refine List.map_congr_left fun k hm => ?_
    have := h4 k hm
    exact hn k (by omega)
theorem numG_pack {x : ByteArray} {m : Int} (h : numG x m) : x = pack (dS (numN x : Int)) := by
  have h2 := data_pack x
  rw [numG_dec h] at h2
  exact h2.symm
theorem keep_pc {x : ByteArray} (h : ∀ k, k < (pcS 44 x).length → numG ((pcS 44 x).getD k ⟨#[]⟩) 8192) : x.data.toList = keepT ((pcS 44 x).map fun y => (numN y : Int)) := by
  rw [← pcS_join 44 x]
  unfold keepT
  rw [List.map_map]
  congr 1
  refine List.map_congr_left fun y hy => ?_
  obtain ⟨j, hj, rfl⟩ := List.getElem_of_mem hy
  have := h j hj
  rw [List.getD, List.getElem?_eq_getElem hj] at this
  exact numG_dec this
/-- A string of a plan is the text of a valid plan. -/
theorem text_good {s : ByteArray} (h : goodP s) : planOK (numN (w3 s 0) : Int) (kepL s) = true ∧ s.data.toList = textB (numN (w3 s 0) : Int) (decide (w3 s 1 = yS)) (kepL s) := by
  obtain ⟨⟨hw, h1⟩, h0, hk, hl⟩ := h
  have hne : 1 ≤ (kepS s).length := by
    unfold kepS; rw [pcS_len]
    have := pc_ne (d := 44) (w3 s 2).data.toList
    cases hp : pc 44 (w3 s 2).data.toList with
    | nil => exact absurd hp this
    | cons a b => simp
  refine ⟨planOK_of ⟨by omega, h0.2, by unfold kepL; rw [List.length_map]; exact hne, by unfold kepL; rw [List.length_map]; exact hl, ?_⟩, ?_⟩
  · intro k hm
    unfold kepL at hm
    rw [List.mem_map] at hm
    obtain ⟨y, hy, rfl⟩ := hm
    obtain ⟨j, hj, rfl⟩ := List.getElem_of_mem hy
    have := hk j hj
    rw [List.getD, List.getElem?_eq_getElem hj] at this
    exact ⟨by omega, this.2⟩
  · have hj := pcS_join 32 s
    have hx : pcS 32 s = [w3 s 0, w3 s 1, w3 s 2] := by
      unfold w3
      match hp : pcS 32 s, hw with
      | [a, b, c], _ => rfl
    rw [← hj, hx, textB]
    have e0 : (w3 s 0).data.toList = dS (numN (w3 s 0) : Int) := numG_dec h0
    have e1 : (w3 s 1).data.toList = doneL (decide (w3 s 1 = yS)) := by
      rcases h1 with e | e <;> rw [e] <;> decide
    have e2 : (w3 s 2).data.toList = keepT (kepL s) := keep_pc hk
    show Lib.join [(w3 s 0).data.toList, (w3 s 1).data.toList, (w3 s 2).data.toList] [32] = _
    rw [e0, e1, e2]
/-- What the reference's 'until' makes of bytes. -/
def utL (c : UInt8) : Nat → Nat → List UInt8 → Nat × List UInt8
  | _, n, [] => (n, [])
  | i, n, b :: r => if b = c then (n, r) else utL c (i + 1) (if b.toNat < 48 ∨ 57 < b.toNat ∨ 7 ≤ i then 0 else n * 10 + (b.toNat - 48)) r
theorem utL_le (c : UInt8) : ∀ (l : List UInt8) (i n : Nat), n < 10 ^ i ∨ 7 < i ∧ n = 0 → (utL c i n l).1 < 10 ^ 7 ∨ (utL c i n l).1 < 10 ^ i
  | [], i, n, h => by
    unfold utL
    rcases h with h | ⟨_, h⟩
    · exact Or.inr h
    · exact Or.inl (by show n < _; rw [h]; decide)
  | b :: r, i, n, h => by
    unfold utL
    split
    · rcases h with h | ⟨_, h⟩
      · exact Or.inr h
      · exact Or.inl (by show n < _; rw [h]; decide)
    · split
      · rename_i hc
        by_cases h7 : 7 ≤ i
        · rcases utL_le c r (i + 1) 0 (Or.inr ⟨by omega, rfl⟩) with h2 | h2
          · exact Or.inl h2
          · exact Or.inl (by
              have := utL_zero c r (i + 1) (by omega)
              rw [this]; decide)
        · rcases utL_le c r (i + 1) 0 (Or.inl (Nat.pow_pos (by decide))) with h2 | h2
          · exact Or.inl h2
          · exact Or.inl (Nat.lt_of_lt_of_le h2 (Nat.pow_le_pow_right (by decide) (by omega)))
      · rename_i hc
        have hb : 48 ≤ b.toNat ∧ b.toNat ≤ 57 ∧ i < 7 := by omega
        have hn : n < 10 ^ i := by
          rcases h with h | ⟨h, _⟩
          · exact h
          · omega
        rcases utL_le c r (i + 1) (n * 10 + (b.toNat - 48)) (Or.inl (by rw [Nat.pow_succ]; omega)) with h2 | h2
        · exact Or.inl h2
        · exact Or.inl (Nat.lt_of_lt_of_le h2 (Nat.pow_le_pow_right (by decide) (by omega)))
where utL_zero (c : UInt8) : ∀ (l : List UInt8) (i : Nat), 7 ≤ i → (utL c i 0 l).1 = 0
  | [], i, _ => rfl
  | b :: r, i, h => by
    unfold utL
    split
    · rfl
    · rw [if_pos (by omega)]
      exact utL_zero c r (i + 1) (by omega)
theorem utL_lt (c : UInt8) (l : List UInt8) : (utL c 0 0 l).1 < 10000000 := by
  rcases utL_le c l 0 0 (Or.inl (by decide)) with h | h
  · exact h
  · exact Nat.lt_of_lt_of_le h (by decide)
theorem utL_short (c : UInt8) : ∀ (l : List UInt8) (i n : Nat), (utL c i n l).2.length ≤ l.length
  | [], i, n => by simp [utL]
  | b :: r, i, n => by
    unfold utL
    split
    · simp
    · exact Nat.le_trans (utL_short c r _ _) (by simp)
theorem utL_digits (c : UInt8) (hc : c.toNat < 48 ∨ 57 < c.toNat) : ∀ (l : List UInt8) (i n m : Nat), Lib.decFrom n l = some m → i + l.length ≤ 7 → ∀ r, utL c i n (l ++ c :: r) = (m, r) ∧ utL c i n l = (m, [])
  | [], i, n, m, h, _, r => by
    simp only [Lib.decFrom, Option.some.injEq] at h
    refine ⟨?_, ?_⟩
    · rw [List.nil_append]; unfold utL; rw [if_pos rfl, h]
    · unfold utL; rw [h]
  | b :: l, i, n, m, h, hl, r => by
    rw [List.length_cons] at hl
    cases hd : Lib.digitVal b with
    | none => simp only [Lib.decFrom, hd] at h; cases h
    | some e =>
      simp only [Lib.decFrom, hd] at h
      obtain ⟨b0, b1, rfl⟩ := Lib.digitVal_eq hd
      have hb : ¬ b = c := fun e => by rw [e] at b0 b1; omega
      have ih := utL_digits c hc l (i + 1) _ m h (by omega) r
      have hno : ¬ (b.toNat < 48 ∨ 57 < b.toNat ∨ 7 ≤ i) := by omega
      refine ⟨?_, ?_⟩
      · rw [List.cons_append]; unfold utL; rw [if_neg hb, if_neg hno]; exact ih.1
      · unfold utL; rw [if_neg hb, if_neg hno]; exact ih.2
theorem utL_dS (c : UInt8) (hc : c.toNat < 48 ∨ 57 < c.toNat) (k : Int) (h0 : 0 ≤ k) (h1 : k ≤ 1000000) (r : List UInt8) : utL c 0 0 (dS k ++ c :: r) = (k.toNat, r) ∧ utL c 0 0 (dS k) = (k.toNat, []) := by
  refine utL_digits c hc _ 0 0 _ (dec_from (k.toNat + 1) k.toNat (Nat.lt_succ_self _)) ?_ r
  rw [Nat.zero_add]
  exact dec_len 6 k.toNat (by have : (10 : Nat) ^ 7 = 10000000 := by decide
                              omega)
/-- What the reference's loop makes of bytes: at most so many numbers. -/
def kpL : Nat → List UInt8 → List Int
  | 0, _ => []
  | k + 1, r => if r = [] then [] else ((utL 44 0 0 r).1 : Int) :: kpL k (utL 44 0 0 r).2
theorem kpL_nil (k : Nat) : kpL k [] = [] := by cases k <;> simp [kpL]
theorem dS_ne (k : Int) : dS k ≠ [] := fun h => by
  have := dec_pos k.toNat
  unfold dS at h
  rw [h] at this
  simp at this
theorem kpL_keep : ∀ (L : List Int) (k : Nat), 1 ≤ L.length → L.length ≤ k → (∀ x ∈ L, 0 ≤ x ∧ x ≤ 8192) → kpL k (keepT L) = L
  | [], k, h, _, _ => by simp at h
  | [a], 0, _, h, _ => by simp at h
  | [a], k + 1, _, _, h => by
    have ha := h a (by simp)
    have hu := (utL_dS 44 (by decide) a (by omega) (by omega) []).2
    show kpL (k + 1) (Lib.join [dS a] [44]) = _
    rw [Lib.join_one]
    unfold kpL
    rw [if_neg (dS_ne a), hu, kpL_nil]
    simp only [List.cons.injEq, and_true]
    omega
  | a :: b :: t, 0, _, h, _ => by simp at h
  | a :: b :: t, k + 1, _, hl, h => by
    have ha := h a (by simp)
    have hu := (utL_dS 44 (by decide) a (by omega) (by omega) (keepT (b :: t))).1
    have e : keepT (a :: b :: t) = dS a ++ 44 :: keepT (b :: t) := by
      unfold keepT
      rw [List.map_cons, List.map_cons, joinc_two]
    rw [e]
    unfold kpL
    rw [if_neg (by simp), hu, kpL_keep (b :: t) k (by simp) (by simp at hl ⊢; omega) (fun x hx => h x (by simp [hx]))]
    simp only [List.cons.injEq, and_true]
    omega
theorem kpL_len : ∀ (k : Nat) (r : List UInt8), (kpL k r).length ≤ k
  | 0, r => by simp [kpL]
  | k + 1, r => by
    unfold kpL
    split
    · simp
    · rw [List.length_cons]; exact Nat.succ_le_succ (kpL_len k _)
/-- The plan that the reference makes of bytes, ahead of its comparison. -/
def refA (l : List UInt8) : Int := ((utL 32 0 0 l).1 : Int)
def refR (l : List UInt8) : List UInt8 := (utL 32 0 0 l).2
def refD (l : List UInt8) : Bool := decide ((refR l).getD 0 0 = 121)
def refL (l : List UInt8) : List Int := kpL 35 ((refR l).drop 2)
theorem ref_good {s : ByteArray} (h : goodP s) : 2 ≤ (refR s.data.toList).length ∧ refA s.data.toList = (numN (w3 s 0) : Int) ∧ refD s.data.toList = decide (w3 s 1 = yS) ∧ refL s.data.toList = kepL s := by
  obtain ⟨hp, hs⟩ := text_good h
  obtain ⟨h0, h1, h2, h3, h4⟩ := planOK_parts hp
  obtain ⟨A, hA⟩ : ∃ A, (numN (w3 s 0) : Int) = A := ⟨_, rfl⟩
  obtain ⟨d, hd⟩ : ∃ d, decide (w3 s 1 = yS) = d := ⟨_, rfl⟩
  obtain ⟨L, hL⟩ : ∃ L, kepL s = L := ⟨_, rfl⟩
  rw [hA] at h0 h1
  rw [hL] at h2 h3 h4
  rw [hA, hd, hL] at hs ⊢
  rw [hs, textB_eq]
  have hu := (utL_dS 32 (by decide) A h0 h1 ((if d = true then 121 else 110) :: 32 :: keepT L)).1
  unfold refL refD refA refR
  rw [hu]
  refine ⟨by simp, by show (A.toNat : Int) = A; omega, ?_, ?_⟩
  · cases d <;> rfl
  · exact kpL_keep L 35 h2 (by omega) h4
/-- The reference's answer is the plan exactly for the strings of plans. -/
theorem ref_bad {s : ByteArray} (h : ¬ goodP s) : ¬ (planOK (refA s.data.toList) (refL s.data.toList) = true ∧ s.data.toList = textB (refA s.data.toList) (refD s.data.toList) (refL s.data.toList)) :=
  fun h2 => h (good_text h2.1 h2.2).1
end Go.Proofs.YtoceeegdbnigeaaDoor
