/-
  Configurations: what the reference's Parse makes of a string, and how its numbers lie in memory.
  Conditions: none.
-/
import Derived.Test.YtllgnogiicdhfaaDoorScan
set_option linter.unusedVariables false
namespace Go.Proofs.YtllgnogiicdhfaaDoor
open Go Go.RowKit

theorem cfgV_eq {S Z R W K V P S' Z' R' W' K' V' P' : Int} (h : cfgV S Z R W K V P = cfgV S' Z' R' W' K' V' P') : S = S' ∧ Z = Z' ∧ R = R' ∧ W = W' ∧ K = K' ∧ V = V' ∧ P = P' := by
  injection h with h1
  simpa using h1
/-- What is read of a string, in terms of the numbers that its words make. -/
theorem ref_q {s : ByteArray} {n : Nat → Int} (hn : goodW (wordsL s) → ∀ j, j < 6 → n j = ((numL (wordsL s) j).1 : Int)) (P : Int) :
    (cfgE (n 0) (n 1) (n 2) (n 3) (n 4) (n 5) P = 0 ∧ s.data.toList = textL (n 0) (n 1) (n 2) (n 3) (n 4) (n 5) P) ↔ (goodW (wordsL s) ∧ cfgOf (wordsL s) = cfgV (n 0) (n 1) (n 2) (n 3) (n 4) (n 5) P) := by
  constructor
  · rintro ⟨h1, h2⟩
    exact text_good h1 h2
  · rintro ⟨h1, h2⟩
    have e0 := hn h1 0 (by decide)
    have e1 := hn h1 1 (by decide)
    have e2 := hn h1 2 (by decide)
    have e3 := hn h1 3 (by decide)
    have e4 := hn h1 4 (by decide)
    have e5 := hn h1 5 (by decide)
    have e6 := (cfgV_eq h2).2.2.2.2.2.2
    have ht := good_text h1
    have hE := h1.2.2
    rw [e6, ← e0, ← e1, ← e2, ← e3, ← e4, ← e5] at ht hE
    exact ⟨hE, ht⟩
theorem ref_none {s : ByteArray} {n : Nat → Int} (hn : goodW (wordsL s) → ∀ j, j < 6 → n j = ((numL (wordsL s) j).1 : Int))
    (h1 : ¬ (goodW (wordsL s) ∧ cfgOf (wordsL s) = cfgV (n 0) (n 1) (n 2) (n 3) (n 4) (n 5) 1)) (h2 : ¬ (goodW (wordsL s) ∧ cfgOf (wordsL s) = cfgV (n 0) (n 1) (n 2) (n 3) (n 4) (n 5) 2)) : ¬ goodW (wordsL s) := by
  intro hg
  have hP := (small_nums hg.2.2).2
  have e : cfgOf (wordsL s) = cfgV (n 0) (n 1) (n 2) (n 3) (n 4) (n 5) (polN ((wordsL s).getD 6 ⟨#[]⟩)) := by
    unfold cfgOf
    rw [hn hg 0 (by decide), hn hg 1 (by decide), hn hg 2 (by decide), hn hg 3 (by decide), hn hg 4 (by decide), hn hg 5 (by decide)]
  rcases hP with hP | hP
  · rw [hP] at e
    exact h1 ⟨hg, e⟩
  · rw [hP] at e
    exact h2 ⟨hg, e⟩
theorem nAt_last {s : ByteArray} {k f : Nat} (h : RI s.data.toList s.data.toList.length k f) : goodW (wordsL s) → ∀ j, j < 6 → nAt (wordsL s) k j = ((numL (wordsL s) j).1 : Int) := by
  intro hg j hj
  have h1 := hg.1
  have h2 := h.done
  rw [← wordsL_data, List.length_map] at h2
  obtain rfl : k = 6 := by omega
  exact nAt_good hg j hj
theorem nAt_past (xs : List ByteArray) (k j : Nat) (hk : 6 ≤ k) (hj : j < 6) : nAt xs (k + 1) j = nAt xs k j := by
  unfold nAt
  rw [if_pos (by omega), if_pos (by omega)]
/-- The numbers of the words of which k have ended, in the array at B. -/
def NP (w : World) (B : Nat) (xs : List ByteArray) (k : Nat) (wr : World) : Prop :=
  (∀ j, j < 6 → wr.cell? ⟨B, j, none⟩ = some (.int .i64 (nAt xs k j))) ∧ (∀ j, wr.frozen? ⟨B, j, none⟩ = false) ∧ Below w.heap.size w wr
theorem NP.past {w wr : World} {B k : Nat} {xs : List ByteArray} (h : NP w B xs k wr) (hk : 6 ≤ k) : NP w B xs (k + 1) wr :=
  ⟨fun j hj => by rw [nAt_past xs k j hk hj]; exact h.1 j hj, h.2⟩
theorem NP.zero {w wr : World} {B k : Nat} {xs : List ByteArray} (h : NP w B xs k wr) (hk : k < 6) (h0 : numR (xs.getD k ⟨#[]⟩) = 0) : NP w B xs (k + 1) wr := by
  refine ⟨fun j hj => ?_, h.2⟩
  rw [h.1 j hj]
  congr 2
  unfold nAt
  by_cases hjk : j = k
  · subst hjk
    rw [if_neg (by omega), if_pos (by omega), h0]; rfl
  · by_cases hlt : j < k
    · rw [if_pos hlt, if_pos (by omega)]
    · rw [if_neg hlt, if_neg (by omega)]
theorem NP.store {w wr : World} {B k : Nat} {xs : List ByteArray} (h : NP w B xs k wr) (hk : k < 6) (hB : w.heap.size ≤ B) (n : Nat) (h0 : numR (xs.getD k ⟨#[]⟩) = n) : NP w B xs (k + 1) (wr.setCell ⟨B, k, none⟩ (.int .i64 (n : Int))) := by
  obtain ⟨h1, h2, h3⟩ := h
  refine ⟨fun j hj => ?_, fun j => by rw [World.frozen?_setCell]; exact h2 j, below_set h3 _ hB _ _⟩
  by_cases hjk : j = k
  · subst hjk
    rw [World.cell?_setCell_same (h := h1 j hj)]
    unfold nAt
    rw [if_pos (by omega), h0]
  · rw [World.cell?_setCell_other (h := by intro he; injection he with e1 e2; omega), h1 j hj]
    congr 2
    unfold nAt
    by_cases hlt : j < k
    · rw [if_pos hlt, if_pos (by omega)]
    · rw [if_neg hlt, if_neg (by omega)]
theorem NP.below {w wr w' : World} {B k : Nat} {xs : List ByteArray} (h : NP w B xs k wr) (hb : Below wr.heap.size wr w') : NP w B xs k w' := by
  obtain ⟨h1, h2, h3⟩ := h
  have l1 := World.block_lt_of_cell? wr _ (h1 0 (by decide))
  exact ⟨fun j hj => cell_kept (h1 j hj) hb, fun j => free_kept (h2 j) l1 hb, h3.trans (hb.mono h3.size)⟩
theorem NP.new (w : World) (t : TypeId) (xs : List ByteArray) (w1 : World) (hw : w1 = w.alloc (.cells #[.int .i64 0, .int .i64 0, .int .i64 0, .int .i64 0, .int .i64 0, .int .i64 0] t)) : NP w w.heap.size xs 0 w1 := by
  subst hw
  refine ⟨fun j hj => ?_, fun j => new_free _ _ j, (Below.refl _ _).alloc (Nat.le_refl _) _⟩
  rw [Lib.cell_of_heap (heap_alloc_new w _)]
  match j, hj with
  | 0, _ => rfl
  | 1, _ => rfl
  | 2, _ => rfl
  | 3, _ => rfl
  | 4, _ => rfl
  | 5, _ => rfl
/-- The same, with the result's block beside it. -/
def NQ (w : World) (xs : List ByteArray) (k : Nat) (wr : World) : Prop :=
  NP w (w.heap.size + 1) xs k wr ∧ (∀ j, j < 7 → wr.cell? ⟨w.heap.size, j, none⟩ = some (.int .i64 0)) ∧ (∀ j, wr.frozen? ⟨w.heap.size, j, none⟩ = false)
theorem NQ.past {w wr : World} {k : Nat} {xs : List ByteArray} (h : NQ w xs k wr) (hk : 6 ≤ k) : NQ w xs (k + 1) wr := ⟨h.1.past hk, h.2⟩
theorem NQ.zero {w wr : World} {k : Nat} {xs : List ByteArray} (h : NQ w xs k wr) (hk : k < 6) (h0 : numR (xs.getD k ⟨#[]⟩) = 0) : NQ w xs (k + 1) wr := ⟨h.1.zero hk h0, h.2⟩
theorem NQ.store {w wr : World} {k : Nat} {xs : List ByteArray} (h : NQ w xs k wr) (hk : k < 6) (n : Nat) (h0 : numR (xs.getD k ⟨#[]⟩) = n) : NQ w xs (k + 1) (wr.setCell ⟨w.heap.size + 1, k, none⟩ (.int .i64 (n : Int))) := by
  refine ⟨h.1.store hk (by omega) n h0, fun j hj => ?_, fun j => by rw [World.frozen?_setCell]; exact h.2.2 j⟩
  rw [World.cell?_setCell_other (h := by intro he; injection he with e1 e2; omega)]
  exact h.2.1 j hj
theorem NQ.new (w : World) (t t2 : TypeId) (xs : List ByteArray) : NQ w xs 0 ((w.alloc (.cells #[.int .i64 0, .int .i64 0, .int .i64 0, .int .i64 0, .int .i64 0, .int .i64 0, .int .i64 0] t)).alloc (.cells #[.int .i64 0, .int .i64 0, .int .i64 0, .int .i64 0, .int .i64 0, .int .i64 0] t2)) := by
  have e1 : (w.alloc (.cells #[.int .i64 0, .int .i64 0, .int .i64 0, .int .i64 0, .int .i64 0, .int .i64 0, .int .i64 0] t)).heap.size = w.heap.size + 1 := by simp
  have h0 : ((w.alloc (.cells #[.int .i64 0, .int .i64 0, .int .i64 0, .int .i64 0, .int .i64 0, .int .i64 0, .int .i64 0] t)).alloc (.cells #[.int .i64 0, .int .i64 0, .int .i64 0, .int .i64 0, .int .i64 0, .int .i64 0] t2)).heap[w.heap.size]? = some (.cells #[.int .i64 0, .int .i64 0, .int .i64 0, .int .i64 0, .int .i64 0, .int .i64 0, .int .i64 0] t (0, 0)) := by
    rw [Below.heap_alloc _ _ _ (by simp), heap_alloc_new]
  have h1 : ((w.alloc (.cells #[.int .i64 0, .int .i64 0, .int .i64 0, .int .i64 0, .int .i64 0, .int .i64 0, .int .i64 0] t)).alloc (.cells #[.int .i64 0, .int .i64 0, .int .i64 0, .int .i64 0, .int .i64 0, .int .i64 0] t2)).heap[w.heap.size + 1]? = some (.cells #[.int .i64 0, .int .i64 0, .int .i64 0, .int .i64 0, .int .i64 0, .int .i64 0] t2 (0, 0)) := by
    rw [← e1, heap_alloc_new]
  refine ⟨⟨fun j hj => ?_, fun j => Lib.frozen_of_heap h1 j, ((Below.refl _ _).alloc (Nat.le_refl _) _).alloc (by simp) _⟩, fun j hj => ?_, fun j => Lib.frozen_of_heap h0 j⟩
  · rw [Lib.cell_of_heap h1]
    match j, hj with
    | 0, _ => rfl
    | 1, _ => rfl
    | 2, _ => rfl
    | 3, _ => rfl
    | 4, _ => rfl
    | 5, _ => rfl
  · rw [Lib.cell_of_heap h0]
    match j, hj with
    | 0, _ => rfl
    | 1, _ => rfl
    | 2, _ => rfl
    | 3, _ => rfl
    | 4, _ => rfl
    | 5, _ => rfl
    | 6, _ => rfl
/-- What holds of the loop over the policies. -/
def TQ (w : World) (C : Nat) (n : Nat → Int) (q : Int) (wr : World) : Prop :=
  ((∀ j, j < 7 → wr.cell? ⟨w.heap.size, j, none⟩ = some (.int .i64 0)) ∧ (∀ j, wr.frozen? ⟨w.heap.size, j, none⟩ = false)) ∧
  (CfgAt wr C (n 0) (n 1) (n 2) (n 3) (n 4) (n 5) q ∧ (∀ j, wr.frozen? ⟨C, j, none⟩ = false)) ∧ Below w.heap.size w wr
theorem TQ.store {w wr : World} {C : Nat} {n : Nat → Int} {q : Int} (h : TQ w C n q wr) (h1 : w.heap.size < C) (q' : Int) : TQ w C n q' (wr.setCell ⟨C, 6, none⟩ (.int .i64 q')) := by
  obtain ⟨⟨g1, g2⟩, ⟨⟨k0, k1, k2, k3, k4, k5, k6⟩, g3⟩, g5⟩ := h
  have ot : ∀ (b j : Nat), (b ≠ C ∨ j ≠ 6) → (wr.setCell ⟨C, 6, none⟩ (.int .i64 q')).cell? ⟨b, j, none⟩ = wr.cell? ⟨b, j, none⟩ := fun b j hn => World.cell?_setCell_other wr ⟨C, 6, none⟩ ⟨b, j, none⟩ _ (by intro he; injection he with e1 e2; omega)
  refine ⟨⟨fun j hj => by rw [ot _ _ (Or.inl (by omega))]; exact g1 j hj, fun j => by rw [World.frozen?_setCell]; exact g2 j⟩, ⟨⟨?_, ?_, ?_, ?_, ?_, ?_, ?_⟩, fun j => by rw [World.frozen?_setCell]; exact g3 j⟩, below_set g5 _ (by omega) _ _⟩
  · rw [ot _ _ (Or.inr (by decide))]; exact k0
  · rw [ot _ _ (Or.inr (by decide))]; exact k1
  · rw [ot _ _ (Or.inr (by decide))]; exact k2
  · rw [ot _ _ (Or.inr (by decide))]; exact k3
  · rw [ot _ _ (Or.inr (by decide))]; exact k4
  · rw [ot _ _ (Or.inr (by decide))]; exact k5
  · exact World.cell?_setCell_same wr ⟨C, 6, none⟩ _ k6
theorem TQ.below {w wr w' : World} {C : Nat} {n : Nat → Int} {q : Int} (h : TQ w C n q wr) (hb : Below wr.heap.size wr w') : TQ w C n q w' := by
  obtain ⟨⟨g1, g2⟩, ⟨⟨k0, k1, k2, k3, k4, k5, k6⟩, g3⟩, g5⟩ := h
  have l1 := World.block_lt_of_cell? wr _ (g1 0 (by decide))
  have l2 := World.block_lt_of_cell? wr _ k0
  exact ⟨⟨fun j hj => cell_kept (g1 j hj) hb, fun j => free_kept (g2 j) l1 hb⟩, ⟨⟨cell_kept k0 hb, cell_kept k1 hb, cell_kept k2 hb, cell_kept k3 hb, cell_kept k4 hb, cell_kept k5 hb, cell_kept k6 hb⟩, fun j => free_kept (g3 j) l2 hb⟩, g5.trans (hb.mono g5.size)⟩
theorem TQ.new {w wr : World} {k : Nat} {xs : List ByteArray} (h : NQ w xs k wr) (t : TypeId) :
    TQ w wr.heap.size (nAt xs k) 0 (wr.alloc (.cells #[.int .i64 (nAt xs k 0), .int .i64 (nAt xs k 1), .int .i64 (nAt xs k 2), .int .i64 (nAt xs k 3), .int .i64 (nAt xs k 4), .int .i64 (nAt xs k 5), .int .i64 0] t)) := by
  obtain ⟨⟨h1, h2, h3⟩, h4, h5⟩ := h
  have l1 := World.block_lt_of_cell? wr _ (h4 0 (by decide))
  refine ⟨⟨fun j hj => cell_old (h4 j hj), fun j => ?_⟩, ⟨cfgAt_new wr _ _ _ _ _ _ _ _, fun j => new_free _ _ j⟩, h3.alloc h3.size _⟩
  rw [((Below.refl wr.heap.size wr).alloc (Nat.le_refl _) _).frozen (p := ⟨w.heap.size, j, none⟩) l1]
  exact h5 j
end Go.Proofs.YtllgnogiicdhfaaDoor
