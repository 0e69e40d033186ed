/-
  Plans: what read makes of a string, with its panic.
  Conditions: the library's tables and variables lie in the world.
-/
import Derived.Test.YtoceeegdbnigeaaDoorNum
import Derived.Test.YtoceeegdbnigeaaDoorSeq
import Derived.Deep.CutRange
import Derived.BigRegion
import Derived.Deep.RegionWith
import Derived.RegionDies
set_option linter.unusedVariables false
namespace Go.Proofs.YtoceeegdbnigeaaDoor
open Go Go.RowKit Go.Shelf
attribute [local go_sem] Oper.semAt_some

abbrev spS : ByteArray := ⟨#[32]⟩
abbrev coS : ByteArray := ⟨#[44]⟩
abbrev yS : ByteArray := ⟨#[121]⟩
abbrev nS : ByteArray := ⟨#[110]⟩
def w3 (s : ByteArray) (i : Nat) : ByteArray := (pcS 32 s).getD i ⟨#[]⟩
def w3P (s : ByteArray) : Prop := (pcS 32 s).length = 3 ∧ (w3 s 1 = yS ∨ w3 s 1 = nS)
def kepS (s : ByteArray) : List ByteArray := pcS 44 (w3 s 2)
def kepL (s : ByteArray) : List Int := (kepS s).map fun x => (numN x : Int)
/-- Which strings are those of plans. -/
def goodP (s : ByteArray) : Prop := w3P s ∧ numG (w3 s 0) 1000000 ∧ (∀ k, k < (kepS s).length → numG ((kepS s).getD k ⟨#[]⟩) 8192) ∧ (kepS s).length ≤ 34
/-- The value v is a slice in memory of the call's own that reads as the numbers L. -/
def IntsNew (B : Nat) (w : World) (v : Value) (L : List Int) : Prop := w.ownsRow B 3 1 v L.length (L.map (Value.int .i64))
theorem IntsNew.at {B : Nat} {w : World} {v : Value} {L : List Int} (h : IntsNew B w v L) : IntsAt w v L := by
  rcases h.2 with ⟨hv, h0⟩ | ⟨g, cap, cur, hv, hb, hg, hc, hm, hs, ht⟩
  · exact ⟨none, 0, by rw [hv, h0], by omega, fun h => by omega⟩
  · refine ⟨some ⟨g, 0, none⟩, cap, hv, hc, fun _ => ⟨g, 0, rfl, fun i hi => ?_⟩⟩
    subst hv
    have h1 := World.ownsRow.cellAt h i (by omega)
    rw [Nat.zero_add, h1, List.getElem?_map, List.getD, List.getElem?_eq_getElem hi]
    rfl
theorem splitp_any (s : ByteArray) (hs : s.size ≤ 1000000) (d : UInt8) (m : Int) (w : World) (hm : w.cell? ⟨0, 0, none⟩ = some (.int .i64 m)) :
    Calls Tryd.prog 30 #[.string s, .string ⟨#[d]⟩] w fun e w' => e = .returned (.slice (some ⟨w.heap.size, 0, none⟩) (pcS d s).length (pcS d s).length) ∧ (∀ j, j < (pcS d s).length → w'.cell? ⟨w.heap.size, j, none⟩ = some (.string ((pcS d s).getD j ⟨#[]⟩))) ∧ Below w.heap.size w w' := by
  have hc : Lib.countB s ⟨#[d]⟩ + 1 = (pcS d s).length := by rw [← pcS_split]; exact (Lib.splitB_all ⟨#[d]⟩ (Nat.le_refl 1) 0 _ s rfl).symm
  refine (Tryd.strings_Split s ⟨#[d]⟩ m w (by omega) hm (Nat.le_refl 1)).mono ?_
  rw [hc, pcS_split]
  rintro e w' ⟨rfl, rfl⟩
  refine ⟨rfl, fun j hj => ?_, (Below.refl _ _).alloc (Nat.le_refl _) _⟩
  refine new_cell _ _ j _ ?_
  rw [List.getElem?_toArray, List.getElem?_map, List.getD, List.getElem?_eq_getElem hj]
  rfl
set_option maxHeartbeats 2000000 in
theorem splitSeq_any (s : ByteArray) (d : UInt8) (w : World) :
    Calls Tryd.prog 59 #[.string s, .string ⟨#[d]⟩] w fun e w' => e = .returned (.func (.func 80) #[] #[.pointer (some ⟨w.heap.size + 1, 0, none⟩), .pointer (some ⟨w.heap.size, 0, none⟩), .pointer (some ⟨w.heap.size + 2, 0, none⟩)]) ∧ Boxes w.heap.size d s w' ∧ w'.heap.size = w.heap.size + 3 ∧ Below w.heap.size w w' := by
  go_enter Tryd.func59, Tryd.ntmps59
  go_wp2_with fail
  go_in
  go_wp2_with fail
  go_ret
  have e1 : (w.alloc (.cells #[.string s] 9)).heap.size = w.heap.size + 1 := World.size_alloc _ _
  have e2 : ((w.alloc (.cells #[.string s] 9)).alloc (.cells #[.string ⟨#[d]⟩] 9)).heap.size = w.heap.size + 2 := by rw [World.size_alloc, e1]
  have e3 : (((w.alloc (.cells #[.string s] 9)).alloc (.cells #[.string ⟨#[d]⟩] 9)).alloc (.cells #[.int .i64 0] 3)).heap.size = w.heap.size + 3 := by rw [World.size_alloc, e2]
  refine ⟨rfl, ⟨?_, ?_, ?_⟩, e3, (((Below.refl _ _).alloc (Nat.le_refl _) _).alloc (by rw [e1]; omega) _).alloc (by rw [e2]; omega) _⟩
  · rw [Below.heap_alloc _ _ _ (by rw [e2]; omega), Below.heap_alloc _ _ _ (by rw [e1]; omega), heap_alloc_new]
  · rw [Below.heap_alloc _ _ _ (by rw [e2]; omega), ← e1, heap_alloc_new]
  · rw [← e2, heap_alloc_new]
theorem pcS_short (d : UInt8) (s : ByteArray) (h : s.size ≤ 1000000) : (pcS d s).length ≤ 1000001 := by
  rw [pcS_len]
  have h1 := pc_len (d := d) s.data.toList
  rw [str_len] at h1
  omega
/-- A plan in memory. -/
def PlanAt (w : World) (B : Nat) (A : Int) (d : Bool) (v : Value) : Prop := (w.cell? ⟨B, 0, none⟩ = some (.int .i64 A) ∧ w.cell? ⟨B, 1, none⟩ = some (.bool d) ∧ w.cell? ⟨B, 2, none⟩ = some v) ∧ ∀ j, w.frozen? ⟨B, j, none⟩ = false
theorem PlanAt.new (w : World) (A : Int) (d : Bool) (v : Value) (t : TypeId) : PlanAt (w.alloc (.cells #[.int .i64 A, .bool d, v] t)) w.heap.size A d v := ⟨planAt_new w A d v t, fun j => new_free _ _ j⟩
theorem PlanAt.below {w w' : World} {B : Nat} {A : Int} {d : Bool} {v : Value} (h : PlanAt w B A d v) (hb : Below w.heap.size w w') : PlanAt w' B A d v := by
  obtain ⟨⟨h0, h1, h2⟩, h3⟩ := h
  have hl := World.block_lt_of_cell? w _ h0
  exact ⟨⟨cell_kept h0 hb, cell_kept h1 hb, cell_kept h2 hb⟩, fun j => free_kept (h3 j) hl hb⟩
theorem PlanAt.block {w w' : World} {B : Nat} {A : Int} {d : Bool} {v : Value} (h : PlanAt w B A d v) (hb : w'.heap[B]? = w.heap[B]?) : PlanAt w' B A d v := by
  obtain ⟨⟨h0, h1, h2⟩, h3⟩ := h
  exact ⟨⟨(World.cell?_of_block hb).trans h0, (World.cell?_of_block hb).trans h1, (World.cell?_of_block hb).trans h2⟩, fun j => (World.frozen?_of_block hb).trans (h3 j)⟩
theorem PlanAt.set2 {w : World} {B : Nat} {A : Int} {d : Bool} {v : Value} (h : PlanAt w B A d v) (v' : Value) : PlanAt (w.setCell ⟨B, 2, none⟩ v') B A d v' := by
  obtain ⟨⟨h0, h1, h2⟩, h3⟩ := h
  have n0 : (⟨B, 0, none⟩ : Addr) ≠ ⟨B, 2, none⟩ := by intro he; injection he with e1 e2; omega
  have n1 : (⟨B, 1, none⟩ : Addr) ≠ ⟨B, 2, none⟩ := by intro he; injection he with e1 e2; omega
  exact ⟨⟨by rw [World.cell?_setCell_other (h := Ne.symm n0)]; exact h0, by rw [World.cell?_setCell_other (h := Ne.symm n1)]; exact h1, World.cell?_setCell_same w ⟨B, 2, none⟩ _ h2⟩, fun j => by rw [World.frozen?_setCell]; exact h3 j⟩
theorem PlanAt.set {w : World} {B : Nat} {A : Int} {d : Bool} {v : Value} (h : PlanAt w B A d v) (A' : Int) (d' : Bool) (v' : Value) : PlanAt (((w.setCell ⟨B, 0, none⟩ (.int .i64 A')).setCell ⟨B, 1, none⟩ (.bool d')).setCell ⟨B, 2, none⟩ v') B A' d' v' := by
  obtain ⟨⟨h0, h1, h2⟩, h3⟩ := h
  have n10 : (⟨B, 1, none⟩ : Addr) ≠ ⟨B, 0, none⟩ := by intro he; injection he with e1 e2; omega
  have n20 : (⟨B, 2, none⟩ : Addr) ≠ ⟨B, 0, none⟩ := by intro he; injection he with e1 e2; omega
  have n21 : (⟨B, 2, none⟩ : Addr) ≠ ⟨B, 1, none⟩ := by intro he; injection he with e1 e2; omega
  refine ⟨⟨?_, ?_, ?_⟩, fun j => by rw [World.frozen?_setCell, World.frozen?_setCell, World.frozen?_setCell]; exact h3 j⟩
  · rw [World.cell?_setCell_other (h := n20), World.cell?_setCell_other (h := n10)]
    exact World.cell?_setCell_same w ⟨B, 0, none⟩ _ h0
  · rw [World.cell?_setCell_other (h := n21)]
    exact World.cell?_setCell_same _ ⟨B, 1, none⟩ _ (by rw [World.cell?_setCell_other (h := Ne.symm n10)]; exact h1)
  · exact World.cell?_setCell_same _ ⟨B, 2, none⟩ _ (by rw [World.cell?_setCell_other (h := Ne.symm n21), World.cell?_setCell_other (h := Ne.symm n20)]; exact h2)
theorem results_plan {fn : Func} {t : Tmp} (h : fn.results = #[.cell t 24]) (tmps : Array Value) (w : World) (B : Nat) (A : Int) (d : Bool) (v : Value) (hp : PlanAt w B A d v) (ht : tmps.getD t undef = .pointer (some ⟨B, 0, none⟩)) : (results fn tmps).run Tryd.prog w = .ok (planV A d v) w := by
  obtain ⟨⟨h0, h1, h2⟩, _⟩ := hp
  have ht' : tmps[t]?.getD undef = .pointer (some ⟨B, 0, none⟩) := by simpa using ht
  simp [results, h, ht', asAddr]
  go_simp
  done
end Go.Proofs.YtoceeegdbnigeaaDoor
