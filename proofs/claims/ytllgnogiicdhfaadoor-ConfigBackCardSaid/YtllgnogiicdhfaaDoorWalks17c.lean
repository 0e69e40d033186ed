/-
  Configurations: what is refused, the common parts.
  Conditions: none.
-/
import Derived.Test.YtllgnogiicdhfaaDoorWalks17b
import Derived.Deep.CutRange
import Derived.Deep.CutBlock
import Derived.BigRegion
set_option linter.unusedVariables false
namespace Go.Proofs.YtllgnogiicdhfaaDoor
open Go Go.RowKit

/-- A list of numbers as a configuration. -/
abbrev cfgL (L : List Int) (i : Nat) : Value := cfgV (L.getD i 0) (L.getD (i + 1) 0) (L.getD (i + 2) 0) (L.getD (i + 3) 0) (L.getD (i + 4) 0) (L.getD (i + 5) 0) (L.getD (i + 6) 0)
/-- Behind the choice: the configuration at C, the two others in a row at A. -/
def FQ (w : World) (C A : Nat) (S Z R W K V P : Int) (L : List Int) (wr : World) : Prop :=
  CfgAt wr C S Z R W K V P ∧ (∀ j, j < 14 → wr.cell? ⟨A, j, none⟩ = some (.int .i64 (L.getD j 0))) ∧ Below w.heap.size w wr
theorem FQ.below {w wr w' : World} {C A : Nat} {S Z R W K V P : Int} {L : List Int} (h : FQ w C A S Z R W K V P L wr) (hb : Below wr.heap.size wr w') : FQ w C A S Z R W K V P L w' := by
  obtain ⟨⟨k0, k1, k2, k3, k4, k5, k6⟩, h2, h3⟩ := h
  exact ⟨⟨cell_kept k0 hb, cell_kept k1 hb, cell_kept k2 hb, cell_kept k3 hb, cell_kept k4 hb, cell_kept k5 hb, cell_kept k6 hb⟩, fun j hj => cell_kept (h2 j hj) hb, h3.trans (hb.mono h3.size)⟩
theorem FQ.new {w wr : World} {C : Nat} {S Z R W K V P : Int} (h : CfgAt wr C S Z R W K V P) (hb : Below w.heap.size w wr) (L : List Int) (hL : L.length = 14) (t : TypeId) :
    FQ w C wr.heap.size S Z R W K V P L (wr.alloc (.cells (L.map (Value.int .i64)).toArray t)) := by
  obtain ⟨k0, k1, k2, k3, k4, k5, k6⟩ := h
  refine ⟨⟨cell_old k0, cell_old k1, cell_old k2, cell_old k3, cell_old k4, cell_old k5, cell_old k6⟩, fun j hj => ?_, hb.alloc hb.size _⟩
  have := listAt_new wr L t j (by omega)
  exact this
theorem cfgE_bad {S Z R W K V P : Int} (h : ¬ ((2 ≤ R ∧ R ≤ 8) ∧ (R + 2 ≤ S ∧ S ≤ 32) ∧ (1 ≤ K ∧ K ≤ 32) ∧ (0 ≤ V ∧ V ≤ 512) ∧ (16 + (16 + K + V) ≤ Z ∧ Z ≤ 8192) ∧ (2 * (16 + K + V + 16) ≤ W ∧ W ≤ 65536) ∧ (1 ≤ P ∧ P ≤ 2))) : cfgE S Z R W K V P = 2 := by
  unfold cfgE
  rw [if_neg]
  rw [cfgOK_iff]
  exact h
theorem cfgE_good {S Z R W K V P : Int} (h : (2 ≤ R ∧ R ≤ 8) ∧ (R + 2 ≤ S ∧ S ≤ 32) ∧ (1 ≤ K ∧ K ≤ 32) ∧ (0 ≤ V ∧ V ≤ 512) ∧ (16 + (16 + K + V) ≤ Z ∧ Z ≤ 8192) ∧ (2 * (16 + K + V + 16) ≤ W ∧ W ≤ 65536) ∧ (1 ≤ P ∧ P ≤ 2)) : cfgE S Z R W K V P = 0 := by
  unfold cfgE
  rw [if_pos]
  rw [cfgOK_iff]
  exact h
/-- Two copies, and what is set in them. -/
def DQ (w : World) (C B1 B2 : Nat) (c l h : List Int) (wr : World) : Prop :=
  (∀ j, j < 7 → wr.cell? ⟨C, j, none⟩ = some (.int .i64 (c.getD j 0))) ∧ (∀ j, j < 7 → wr.cell? ⟨B1, j, none⟩ = some (.int .i64 (l.getD j 0))) ∧ (∀ j, j < 7 → wr.cell? ⟨B2, j, none⟩ = some (.int .i64 (h.getD j 0))) ∧
  (∀ j, wr.frozen? ⟨B1, j, none⟩ = false) ∧ (∀ j, wr.frozen? ⟨B2, j, none⟩ = false) ∧ Below w.heap.size w wr
theorem DQ.new {w wr : World} {C : Nat} {S Z R W K V P : Int} (h : CfgAt wr C S Z R W K V P) (hb : Below w.heap.size w wr) (t t2 : TypeId) :
    DQ w C wr.heap.size (wr.heap.size + 1) [S, Z, R, W, K, V, P] [S, Z, R, W, K, V, P] [S, Z, R, W, K, V, P] (((wr.alloc (.cells #[.int .i64 S, .int .i64 Z, .int .i64 R, .int .i64 W, .int .i64 K, .int .i64 V, .int .i64 P] t)).alloc (.cells #[.int .i64 S, .int .i64 Z, .int .i64 R, .int .i64 W, .int .i64 K, .int .i64 V, .int .i64 P] t2)).drew) := by
  have e1 : (wr.alloc (.cells #[.int .i64 S, .int .i64 Z, .int .i64 R, .int .i64 W, .int .i64 K, .int .i64 V, .int .i64 P] t)).heap.size = wr.heap.size + 1 := by simp
  obtain ⟨k0, k1, k2, k3, k4, k5, k6⟩ := h
  obtain ⟨l0, l1, l2, l3, l4, l5, l6⟩ := cfgAt_new wr S Z R W K V P t
  have hh := cfgAt_new (wr.alloc (.cells #[.int .i64 S, .int .i64 Z, .int .i64 R, .int .i64 W, .int .i64 K, .int .i64 V, .int .i64 P] t)) S Z R W K V P t2
  rw [e1] at hh
  obtain ⟨h0, h1, h2, h3, h4, h5, h6⟩ := hh
  refine ⟨fun j hj => ?_, fun j hj => ?_, fun j hj => ?_, fun j => ?_, fun j => ?_, ((hb.alloc hb.size _).alloc (by rw [e1]; have := hb.size; omega) _).drew⟩
  · match j, hj with
    | 0, _ => exact cell_old (cell_old k0)
    | 1, _ => exact cell_old (cell_old k1)
    | 2, _ => exact cell_old (cell_old k2)
    | 3, _ => exact cell_old (cell_old k3)
    | 4, _ => exact cell_old (cell_old k4)
    | 5, _ => exact cell_old (cell_old k5)
    | 6, _ => exact cell_old (cell_old k6)
  · match j, hj with
    | 0, _ => exact cell_old l0
    | 1, _ => exact cell_old l1
    | 2, _ => exact cell_old l2
    | 3, _ => exact cell_old l3
    | 4, _ => exact cell_old l4
    | 5, _ => exact cell_old l5
    | 6, _ => exact cell_old l6
  · match j, hj with
    | 0, _ => exact h0
    | 1, _ => exact h1
    | 2, _ => exact h2
    | 3, _ => exact h3
    | 4, _ => exact h4
    | 5, _ => exact h5
    | 6, _ => exact h6
  · show ((wr.alloc _).alloc _).frozen? _ = false
    refine Lib.frozen_of_heap (show _ = some (Obj.cells #[.int .i64 S, .int .i64 Z, .int .i64 R, .int .i64 W, .int .i64 K, .int .i64 V, .int .i64 P] t (0, 0)) from ?_) j
    rw [Below.heap_alloc _ _ _ (by simp), heap_alloc_new]
  · show ((wr.alloc _).alloc _).frozen? _ = false
    refine Lib.frozen_of_heap (show _ = some (Obj.cells #[.int .i64 S, .int .i64 Z, .int .i64 R, .int .i64 W, .int .i64 K, .int .i64 V, .int .i64 P] t2 (0, 0)) from ?_) j
    rw [← e1, heap_alloc_new]
theorem DQ.drew {w wr : World} {C B1 B2 : Nat} {c l h : List Int} (hd : DQ w C B1 B2 c l h wr) : DQ w C B1 B2 c l h wr.drew := ⟨hd.1, hd.2.1, hd.2.2.1, hd.2.2.2.1, hd.2.2.2.2.1, hd.2.2.2.2.2.drew⟩
theorem DQ.swap {w wr : World} {C B1 B2 : Nat} {c l h : List Int} (hd : DQ w C B1 B2 c l h wr) : DQ w C B2 B1 c h l wr := ⟨hd.1, hd.2.2.1, hd.2.1, hd.2.2.2.2.1, hd.2.2.2.1, hd.2.2.2.2.2⟩
theorem getD_set {L : List Int} {j i : Nat} {x : Int} (hj : j < L.length) : (L.set j x).getD i 0 = if j = i then x else L.getD i 0 := by
  by_cases h : j = i
  · subst h
    rw [if_pos rfl, List.getD, List.getElem?_set_self hj]; rfl
  · rw [if_neg h, List.getD, List.getD, List.getElem?_set_ne h]
theorem DQ.set1 {w wr : World} {C B1 B2 : Nat} {c l h : List Int} (hd : DQ w C B1 B2 c l h wr) (hw : w.heap.size ≤ B1) (h1 : C ≠ B1) (h2 : B1 ≠ B2) (hl : l.length = 7) (j : Nat) (hj : j < 7) (x : Int) :
    DQ w C B1 B2 c (l.set j x) h (wr.setCell ⟨B1, j, none⟩ (.int .i64 x)) := by
  obtain ⟨a1, a2, a3, a4, a5, a6⟩ := hd
  refine ⟨fun i hi => ?_, fun i hi => ?_, fun i hi => ?_, fun i => by rw [World.frozen?_setCell]; exact a4 i, fun i => by rw [World.frozen?_setCell]; exact a5 i, below_set a6 _ hw _ _⟩
  · rw [World.cell?_setCell_other (h := by intro he; injection he with e1; omega)]; exact a1 i hi
  · rw [getD_set (by omega)]
    by_cases hij : j = i
    · subst hij
      rw [World.cell?_setCell_same (h := a2 j hi), if_pos rfl]
    · rw [World.cell?_setCell_other (h := by intro he; injection he with e1 e2; omega), if_neg hij]; exact a2 i hi
  · rw [World.cell?_setCell_other (h := by intro he; injection he with e1; omega)]; exact a3 i hi
theorem DQ.set2 {w wr : World} {C B1 B2 : Nat} {c l h : List Int} (hd : DQ w C B1 B2 c l h wr) (hw : w.heap.size ≤ B2) (h1 : C ≠ B2) (h2 : B1 ≠ B2) (hl : h.length = 7) (j : Nat) (hj : j < 7) (x : Int) :
    DQ w C B1 B2 c l (h.set j x) (wr.setCell ⟨B2, j, none⟩ (.int .i64 x)) := by
  obtain ⟨a1, a2, a3, a4, a5, a6⟩ := hd
  refine ⟨fun i hi => ?_, fun i hi => ?_, fun i hi => ?_, fun i => by rw [World.frozen?_setCell]; exact a4 i, fun i => by rw [World.frozen?_setCell]; exact a5 i, below_set a6 _ hw _ _⟩
  · rw [World.cell?_setCell_other (h := by intro he; injection he with e1; omega)]; exact a1 i hi
  · rw [World.cell?_setCell_other (h := by intro he; injection he with e1; omega)]; exact a2 i hi
  · rw [getD_set (by omega)]
    by_cases hij : j = i
    · subst hij
      rw [World.cell?_setCell_same (h := a3 j hi), if_pos rfl]
    · rw [World.cell?_setCell_other (h := by intro he; injection he with e1 e2; omega), if_neg hij]; exact a3 i hi
theorem list7 {l : List Int} (h : l.length = 7) : ∃ a b c d e f g, l = [a, b, c, d, e, f, g] := by
  match l, h with
  | [a, b, c, d, e, f, g], _ => exact ⟨a, b, c, d, e, f, g, rfl⟩
theorem DQ.cfg1 {w wr : World} {C B1 B2 : Nat} {c h : List Int} {S Z R W K V P : Int} (hd : DQ w C B1 B2 c [S, Z, R, W, K, V, P] h wr) : CfgAt wr B1 S Z R W K V P :=
  ⟨hd.2.1 0 (by decide), hd.2.1 1 (by decide), hd.2.1 2 (by decide), hd.2.1 3 (by decide), hd.2.1 4 (by decide), hd.2.1 5 (by decide), hd.2.1 6 (by decide)⟩
theorem DQ.cfg0 {w wr : World} {C B1 B2 : Nat} {l h : List Int} {S Z R W K V P : Int} (hd : DQ w C B1 B2 [S, Z, R, W, K, V, P] l h wr) : CfgAt wr C S Z R W K V P :=
  ⟨hd.1 0 (by decide), hd.1 1 (by decide), hd.1 2 (by decide), hd.1 3 (by decide), hd.1 4 (by decide), hd.1 5 (by decide), hd.1 6 (by decide)⟩
end Go.Proofs.YtllgnogiicdhfaaDoor
