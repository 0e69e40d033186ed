/-
  Plain Lean, no program: the words of a string, between its spaces.
  Conditions: none.
-/
import Derived.Test.YtllgnogiicdhfaaDoorCfg7
set_option linter.unusedVariables false
namespace Go.Proofs.YtllgnogiicdhfaaDoor
open Go Go.RowKit

/-- The words of a list, between its spaces. -/
def wl : List UInt8 → List (List UInt8)
  | [] => [[]]
  | c :: r => if c = 32 then [] :: wl r else match wl r with
    | [] => [[c]]
    | x :: t => (c :: x) :: t
theorem wl_ne : ∀ l, wl l ≠ []
  | [] => by simp [wl]
  | c :: r => by
    unfold wl
    split
    · simp
    · split <;> simp
theorem wl_cons {c : UInt8} {r x : List UInt8} {t : List (List UInt8)} (hc : c ≠ 32) (h : wl r = x :: t) : wl (c :: r) = (c :: x) :: t := by
  rw [wl, if_neg hc, h]
theorem wl_space (r : List UInt8) : wl (32 :: r) = [] :: wl r := by rw [wl, if_pos rfl]
theorem wl_word : ∀ x : List UInt8, (32 : UInt8) ∉ x → wl x = [x]
  | [], _ => rfl
  | c :: r, h => wl_cons (fun e => h (by rw [e]; simp)) (wl_word r fun hr => h (by simp [hr]))
theorem wl_app : ∀ (x r : List UInt8), (32 : UInt8) ∉ x → wl (x ++ 32 :: r) = x :: wl r
  | [], r, _ => wl_space r
  | c :: x, r, h => wl_cons (fun e => h (by rw [e]; simp)) (wl_app x r fun hr => h (by simp [hr]))
theorem wl_mem : ∀ (l x : List UInt8), x ∈ wl l → (32 : UInt8) ∉ x
  | [], x, h => by
    rw [wl, List.mem_singleton] at h
    rw [h]; simp
  | c :: r, x, h => by
    by_cases hc : c = 32
    · rw [hc, wl_space, List.mem_cons] at h
      rcases h with rfl | h
      · simp
      · exact wl_mem r x h
    · cases hw : wl r with
      | nil => exact absurd hw (wl_ne r)
      | cons y t =>
        rw [wl_cons hc hw, List.mem_cons] at h
        rcases h with rfl | h
        · intro hm
          rw [List.mem_cons] at hm
          rcases hm with e | hm
          · exact hc e.symm
          · exact wl_mem r y (by rw [hw]; simp) hm
        · exact wl_mem r x (by rw [hw]; simp [h])
theorem join_two (a b : List UInt8) (t : List (List UInt8)) : Lib.join (a :: b :: t) [32] = a ++ 32 :: Lib.join (b :: t) [32] := by
  rw [Lib.join_cons, Lib.join_cons]
  simp [Lib.joinTail]
theorem wl_join : ∀ l : List UInt8, Lib.join (wl l) [32] = l
  | [] => by rw [wl, Lib.join_one]
  | c :: r => by
    have ih := wl_join r
    cases hw : wl r with
    | nil => exact absurd hw (wl_ne r)
    | cons y t =>
      by_cases hc : c = 32
      · rw [hc, wl_space, hw, join_two, ← hw, ih]; rfl
      · rw [wl_cons hc hw]
        rw [hw] at ih
        cases t with
        | nil => rw [Lib.join_one] at ih ⊢; rw [ih]
        | cons z t => rw [join_two] at ih ⊢; rw [List.cons_append, ih]
theorem wl_of_join : ∀ (ws : List (List UInt8)), ws ≠ [] → (∀ x ∈ ws, (32 : UInt8) ∉ x) → wl (Lib.join ws [32]) = ws
  | [], h, _ => absurd rfl h
  | [x], _, h => by rw [Lib.join_one]; exact wl_word x (h x (by simp))
  | x :: y :: t, _, h => by
    rw [join_two, wl_app x _ (h x (by simp)), wl_of_join (y :: t) (by simp) fun z hz => h z (List.mem_cons_of_mem _ hz)]
theorem wl_cut : ∀ l : List UInt8, (32 : UInt8) ∉ l ∨ ∃ x r, l = x ++ 32 :: r ∧ (32 : UInt8) ∉ x
  | [] => Or.inl (by simp)
  | c :: l => by
    by_cases hc : c = 32
    · exact Or.inr ⟨[], l, by rw [hc]; rfl, by simp⟩
    · rcases wl_cut l with h | ⟨x, r, rfl, h⟩
      · exact Or.inl (by simp [h, Ne.symm hc])
      · exact Or.inr ⟨c :: x, r, rfl, by simp [h, Ne.symm hc]⟩
theorem index_space : ∀ (x r : List UInt8), (32 : UInt8) ∉ x → Lib.index (x ++ 32 :: r) [32] = (x.length : Int)
  | [], r, _ => by simp [Lib.index, List.isPrefixOf]
  | c :: x, r, h => by
    have ih := index_space x r fun hr => h (by simp [hr])
    have hc : ¬ c = 32 := fun e => h (by rw [e]; simp)
    rw [List.cons_append, Lib.index, ih]
    have hp : ([32] : List UInt8).isPrefixOf (c :: (x ++ 32 :: r)) = false := by simp [List.isPrefixOf, Ne.symm hc]
    rw [hp]
    have : ¬ (((x.length : Int) == -1) = true) := by rw [beq_iff_eq]; omega
    rw [if_neg this]
    simp
theorem index_nospace : ∀ (x : List UInt8), (32 : UInt8) ∉ x → Lib.index x [32] = -1
  | [], _ => rfl
  | c :: x, h => by
    have hc : ¬ c = 32 := fun e => h (by rw [e]; simp)
    rw [Lib.index, index_nospace x fun hr => h (by simp [hr])]
    have hp : ([32] : List UInt8).isPrefixOf (c :: x) = false := by simp [List.isPrefixOf, Ne.symm hc]
    rw [hp]
    rfl
theorem splitK_wl : ∀ (k : Nat) (l : List UInt8), l.length < k → Lib.splitK [32] 0 (Lib.count l [32]) l = wl l
  | 0, _, h => absurd h (Nat.not_lt_zero _)
  | k + 1, l, h => by
    rcases wl_cut l with hn | ⟨x, r, rfl, hn⟩
    · rw [Lib.count_miss (index_nospace l hn), wl_word l hn]; rfl
    · have hi := index_space x r hn
      rw [Lib.count_hit (by simp) hi, wl_app x r hn, Nat.add_comm, Lib.splitK, hi]
      have : ¬ (((x.length : Int) == -1) = true) := by rw [beq_iff_eq]; omega
      rw [if_neg this]
      have ed : (x ++ 32 :: r).drop (x.length + 1) = r := by simp
      have et : (x ++ 32 :: r).take (((x.length : Nat) : Int).toNat + 0) = x := by simp
      rw [et]
      show x :: Lib.splitK [32] 0 (Lib.count ((x ++ 32 :: r).drop (x.length + 1)) [32]) ((x ++ 32 :: r).drop (((x.length : Nat) : Int).toNat + 1)) = _
      rw [Int.toNat_natCast, ed, splitK_wl k r (by simp at h; omega)]
def pack (l : List UInt8) : ByteArray := ⟨l.toArray⟩
theorem pack_data (l : List UInt8) : (pack l).data.toList = l := by simp [pack]
theorem data_pack (x : ByteArray) : pack x.data.toList = x := by apply ByteArray.ext; apply Array.ext'; simp [pack]
theorem wordsL_data (s : ByteArray) : (wordsL s).map (·.data.toList) = wl s.data.toList := by
  unfold wordsL
  rw [Lib.splitB_data]
  exact splitK_wl _ s.data.toList (Nat.lt_succ_self _)
theorem wordsL_pack (s : ByteArray) : wordsL s = (wl s.data.toList).map pack := by
  rw [← wordsL_data, List.map_map]
  conv => lhs; rw [← List.map_id (wordsL s)]
  apply List.map_congr_left
  intro x _
  exact (data_pack x).symm
theorem wordsL_join (s : ByteArray) : Lib.join ((wordsL s).map (·.data.toList)) [32] = s.data.toList := by rw [wordsL_data, wl_join]
/-- The words of what is joined of words. -/
theorem wordsL_of (ws : List ByteArray) (h0 : ws ≠ []) (h : ∀ x ∈ ws, (32 : UInt8) ∉ x.data.toList) (s : ByteArray) (hs : s.data.toList = Lib.join (ws.map (·.data.toList)) [32]) : wordsL s = ws := by
  rw [wordsL_pack, hs, wl_of_join _ (by simpa using h0) (by
    intro x hx
    rw [List.mem_map] at hx
    obtain ⟨y, hy, rfl⟩ := hx
    exact h y hy), List.map_map]
  conv => rhs; rw [← List.map_id ws]
  apply List.map_congr_left
  intro x _
  exact data_pack x
theorem wordsL_same {s t : ByteArray} (h : wordsL s = wordsL t) : s = t := by
  have h1 := wordsL_join s
  rw [h, wordsL_join t] at h1
  apply ByteArray.ext
  apply Array.ext'
  exact h1.symm
theorem wordsL_nospace (s : ByteArray) (i : Nat) : (32 : UInt8) ∉ ((wordsL s).getD i ⟨#[]⟩).data.toList := by
  by_cases h : i < (wordsL s).length
  · refine wl_mem s.data.toList _ ?_
    rw [← wordsL_data, List.getD, List.getElem?_eq_getElem h]
    exact List.mem_map_of_mem (List.getElem_mem _)
  · rw [List.getD, List.getElem?_eq_none (by omega)]
    simp
end Go.Proofs.YtllgnogiicdhfaaDoor
