/-
  Plain Lean, no program: the pieces of a string, between the places of one byte.
  Conditions: none.
-/
import Derived.Test.YtoceeegdbnigeaaDoorPlain
import Derived.Lib.Bytealg
import Derived.Lib.SplitLaws
import Derived.Lib.Join
set_option linter.unusedVariables false
namespace Go.Proofs.YtoceeegdbnigeaaDoor
open Go Go.RowKit

/-- The pieces of a list, between the places of d. -/
def pc (d : UInt8) : List UInt8 → List (List UInt8)
  | [] => [[]]
  | c :: r => if c = d then [] :: pc d r else match pc d r with
    | [] => [[c]]
    | x :: t => (c :: x) :: t
section
variable {d : UInt8}
theorem pc_ne : ∀ l, pc d l ≠ []
  | [] => by simp [pc]
  | c :: r => by
    unfold pc
    split
    · simp
    · split <;> simp
theorem pc_cons {c : UInt8} {r x : List UInt8} {t : List (List UInt8)} (hc : c ≠ d) (h : pc d r = x :: t) : pc d (c :: r) = (c :: x) :: t := by
  rw [pc, if_neg hc, h]
theorem pc_mark (r : List UInt8) : pc d (d :: r) = [] :: pc d r := by rw [pc, if_pos rfl]
theorem pc_word : ∀ x : List UInt8, d ∉ x → pc d x = [x]
  | [], _ => rfl
  | c :: r, h => pc_cons (fun e => h (by rw [e]; simp)) (pc_word r fun hr => h (by simp [hr]))
theorem pc_app : ∀ (x r : List UInt8), d ∉ x → pc d (x ++ d :: r) = x :: pc d r
  | [], r, _ => pc_mark r
  | c :: x, r, h => pc_cons (fun e => h (by rw [e]; simp)) (pc_app x r fun hr => h (by simp [hr]))
theorem pc_mem : ∀ (l x : List UInt8), x ∈ pc d l → d ∉ x
  | [], x, h => by
    rw [pc, List.mem_singleton] at h
    rw [h]; simp
  | c :: r, x, h => by
    by_cases hc : c = d
    · rw [hc, pc_mark, List.mem_cons] at h
      rcases h with rfl | h
      · simp
      · exact pc_mem r x h
    · cases hw : pc d r with
      | nil => exact absurd hw (pc_ne r)
      | cons y t =>
        rw [pc_cons hc hw, List.mem_cons] at h
        rcases h with rfl | h
        · intro hm
          rw [List.mem_cons] at hm
          rcases hm with e | hm
          · exact hc e.symm
          · exact pc_mem r y (by rw [hw]; simp) hm
        · exact pc_mem r x (by rw [hw]; simp [h])
theorem pc_len : ∀ l : List UInt8, (pc d l).length ≤ l.length + 1
  | [] => by simp [pc]
  | c :: r => by
    have ih := pc_len r
    by_cases hc : c = d
    · rw [hc, pc_mark, List.length_cons, List.length_cons]; omega
    · cases hw : pc d r with
      | nil => exact absurd hw (pc_ne r)
      | cons x t =>
        rw [pc_cons hc hw]
        rw [hw] at ih
        simp at ih ⊢; omega
theorem joinc_two (a b : List UInt8) (t : List (List UInt8)) : Lib.join (a :: b :: t) [d] = a ++ d :: Lib.join (b :: t) [d] := by
  rw [Lib.join_cons, Lib.join_cons]
  simp [Lib.joinTail]
theorem pc_join : ∀ l : List UInt8, Lib.join (pc d l) [d] = l
  | [] => by rw [pc, Lib.join_one]
  | c :: r => by
    have ih := pc_join r
    cases hw : pc d r with
    | nil => exact absurd hw (pc_ne r)
    | cons y t =>
      by_cases hc : c = d
      · rw [hc, pc_mark, hw, joinc_two, ← hw, ih]; rfl
      · rw [pc_cons hc hw]
        rw [hw] at ih
        cases t with
        | nil => rw [Lib.join_one] at ih ⊢; rw [ih]
        | cons z t => rw [joinc_two] at ih ⊢; rw [List.cons_append, ih]
theorem pc_of_join : ∀ (ws : List (List UInt8)), ws ≠ [] → (∀ x ∈ ws, d ∉ x) → pc d (Lib.join ws [d]) = ws
  | [], h, _ => absurd rfl h
  | [x], _, h => by rw [Lib.join_one]; exact pc_word x (h x (by simp))
  | x :: y :: t, _, h => by
    rw [joinc_two, pc_app x _ (h x (by simp)), pc_of_join (y :: t) (by simp) fun z hz => h z (List.mem_cons_of_mem _ hz)]
theorem pc_cut : ∀ l : List UInt8, d ∉ l ∨ ∃ x r, l = x ++ d :: r ∧ d ∉ x
  | [] => Or.inl (by simp)
  | c :: l => by
    by_cases hc : c = d
    · exact Or.inr ⟨[], l, by rw [hc]; rfl, by simp⟩
    · rcases pc_cut l with h | ⟨x, r, rfl, h⟩
      · exact Or.inl (by simp [h, Ne.symm hc])
      · exact Or.inr ⟨c :: x, r, rfl, by simp [h, Ne.symm hc]⟩
theorem pc_app2 : ∀ (a b : List UInt8), pc d (a ++ d :: b) = pc d a ++ pc d b
  | [], b => by rw [List.nil_append, pc_mark]; rfl
  | c :: a, b => by
    by_cases hc : c = d
    · rw [hc, List.cons_append, pc_mark, pc_mark, pc_app2 a b]; rfl
    · have ih := pc_app2 a b
      cases hw : pc d a with
      | nil => exact absurd hw (pc_ne a)
      | cons x t =>
        rw [hw] at ih
        rw [List.cons_append, pc_cons hc (by rw [ih]; rfl), pc_cons hc hw]
        rfl
theorem ib_hit : ∀ (x r : List UInt8), d ∉ x → Lib.indexByte (x ++ d :: r) d = (x.length : Int)
  | [], r, _ => by simp [Lib.indexByte]
  | c :: x, r, h => by
    have ih := ib_hit x r fun hr => h (by simp [hr])
    have hc : ¬ c = d := fun e => h (by rw [e]; simp)
    rw [List.cons_append, Lib.indexByte, ih, if_neg (by rw [beq_iff_eq]; exact hc), if_neg (by rw [beq_iff_eq]; omega)]
    simp
theorem ib_miss : ∀ (x : List UInt8), d ∉ x → Lib.indexByte x d = -1
  | [], _ => rfl
  | c :: x, h => by
    have hc : ¬ c = d := fun e => h (by rw [e]; simp)
    rw [Lib.indexByte, ib_miss x fun hr => h (by simp [hr]), if_neg (by rw [beq_iff_eq]; exact hc)]
    rfl
theorem idx_hit (x r : List UInt8) (h : d ∉ x) : Lib.index (x ++ d :: r) [d] = (x.length : Int) := by rw [Lib.index_one, ib_hit x r h]
theorem idx_miss (x : List UInt8) (h : d ∉ x) : Lib.index x [d] = -1 := by rw [Lib.index_one, ib_miss x h]
theorem splitK_pc : ∀ (k : Nat) (l : List UInt8), l.length < k → Lib.splitK [d] 0 (Lib.count l [d]) l = pc d l
  | 0, _, h => absurd h (Nat.not_lt_zero _)
  | k + 1, l, h => by
    rcases pc_cut (d := d) l with hn | ⟨x, r, rfl, hn⟩
    · rw [Lib.count_miss (idx_miss l hn), pc_word l hn]; rfl
    · have hi := idx_hit x r hn
      rw [Lib.count_hit (by simp) hi, pc_app x r hn, Nat.add_comm, Lib.splitK, hi]
      have : ¬ (((x.length : Int) == -1) = true) := by rw [beq_iff_eq]; omega
      rw [if_neg this]
      have ed : (x ++ d :: r).drop (x.length + 1) = r := by simp
      have et : (x ++ d :: r).take (((x.length : Nat) : Int).toNat + 0) = x := by simp
      rw [et]
      show x :: Lib.splitK [d] 0 (Lib.count ((x ++ d :: r).drop (x.length + 1)) [d]) ((x ++ d :: r).drop (((x.length : Nat) : Int).toNat + 1)) = _
      rw [Int.toNat_natCast, ed, splitK_pc k r (by simp at h; omega)]
end
def pack (l : List UInt8) : ByteArray := ⟨l.toArray⟩
theorem pack_data (l : List UInt8) : (pack l).data.toList = l := by simp [pack]
theorem data_pack (x : ByteArray) : pack x.data.toList = x := by apply ByteArray.ext; apply Array.ext'; simp [pack]
theorem pack_size (l : List UInt8) : (pack l).size = l.length := by rw [← str_len, pack_data]
/-- The pieces of a string. -/
def pcS (d : UInt8) (s : ByteArray) : List ByteArray := (pc d s.data.toList).map pack
theorem pcS_len (d : UInt8) (s : ByteArray) : (pcS d s).length = (pc d s.data.toList).length := by unfold pcS; rw [List.length_map]
theorem pcS_data (d : UInt8) (s : ByteArray) : (pcS d s).map (·.data.toList) = pc d s.data.toList := by
  unfold pcS
  rw [List.map_map]
  conv => rhs; rw [← List.map_id (pc d s.data.toList)]
  apply List.map_congr_left
  intro x _
  exact pack_data x
theorem pcS_getD (d : UInt8) (s : ByteArray) (k : Nat) : (pcS d s).getD k ⟨#[]⟩ = pack ((pc d s.data.toList).getD k []) := by
  unfold pcS
  rw [List.getD, List.getElem?_map, List.getD]
  cases (pc d s.data.toList)[k]? with
  | none => rfl
  | some x => rfl
theorem pcS_join (d : UInt8) (s : ByteArray) : Lib.join ((pcS d s).map (·.data.toList)) [d] = s.data.toList := by rw [pcS_data, pc_join]
theorem pcS_split (d : UInt8) (s : ByteArray) : Lib.splitB ⟨#[d]⟩ 0 (Lib.countB s ⟨#[d]⟩) s = pcS d s := by
  have h : (Lib.splitB ⟨#[d]⟩ 0 (Lib.countB s ⟨#[d]⟩) s).map (·.data.toList) = pc d s.data.toList := by
    rw [Lib.splitB_data]
    exact splitK_pc _ s.data.toList (Nat.lt_succ_self _)
  unfold pcS
  rw [← h, List.map_map]
  conv => lhs; rw [← List.map_id (Lib.splitB _ _ _ _)]
  apply List.map_congr_left
  intro x _
  exact (data_pack x).symm
theorem pcS_of (d : UInt8) (ws : List ByteArray) (h0 : ws ≠ []) (h : ∀ x ∈ ws, d ∉ x.data.toList) (s : ByteArray) (hs : s.data.toList = Lib.join (ws.map (·.data.toList)) [d]) : pcS d s = ws := by
  unfold pcS
  rw [hs, pc_of_join _ (by simpa using h0) (by
    intro x hx
    rw [List.mem_map] at hx
    obtain ⟨y, hy, rfl⟩ := hx
    exact h y hy), List.map_map]
  conv => rhs; rw [← List.map_id ws]
  apply List.map_congr_left
  intro x _
  exact data_pack x
theorem pc_piece_len (d : UInt8) : ∀ (l x : List UInt8), x ∈ pc d l → x.length ≤ l.length
  | [], x, h => by
    rw [pc, List.mem_singleton] at h
    rw [h]; exact Nat.le_refl _
  | c :: r, x, h => by
    by_cases hc : c = d
    · rw [hc, pc_mark, List.mem_cons] at h
      rcases h with rfl | h
      · simp
      · have := pc_piece_len d r x h; simp; omega
    · cases hw : pc d r with
      | nil => exact absurd hw (pc_ne r)
      | cons y t =>
        rw [pc_cons hc hw, List.mem_cons] at h
        rcases h with rfl | h
        · have := pc_piece_len d r y (by rw [hw]; simp); simp; omega
        · have := pc_piece_len d r x (by rw [hw]; simp [h]); simp; omega
theorem pcS_size (d : UInt8) (s : ByteArray) (k : Nat) : ((pcS d s).getD k ⟨#[]⟩).size ≤ s.size := by
  rw [pcS_getD, pack_size, ← str_len s]
  by_cases h : k < (pc d s.data.toList).length
  · rw [List.getD, List.getElem?_eq_getElem h]
    exact pc_piece_len d _ _ (List.getElem_mem _)
  · rw [List.getD, List.getElem?_eq_none (by omega)]; simp
end Go.Proofs.YtoceeegdbnigeaaDoor
