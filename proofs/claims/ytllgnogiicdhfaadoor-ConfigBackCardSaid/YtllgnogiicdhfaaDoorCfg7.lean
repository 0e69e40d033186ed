/-
  Configurations: what Parse computes.
  Conditions: the library's tables lie in the world.
-/
import Derived.Test.YtllgnogiicdhfaaDoorCfg6
import Derived.Test.YtllgnogiicdhfaaDoorDigits2
import Derived.Lib.SplitLaws
set_option linter.unusedVariables false
namespace Go.Proofs.YtllgnogiicdhfaaDoor
open Go Go.RowKit

abbrev spS : ByteArray := ⟨#[32]⟩
/-- The words of a string, between its spaces. -/
def wordsL (s : ByteArray) : List ByteArray := Lib.splitB spS 0 (Lib.countB s spS) s
def numL (xs : List ByteArray) (i : Nat) : Nat × Int := digV (xs.getD i ⟨#[]⟩).data.toList
/-- Whether the first words are numbers that are not too large. -/
def numOK (xs : List ByteArray) (i : Nat) : Prop := (numL xs i).2 = 0 ∧ (numL xs i).1 ≤ 65536
def polN (x : ByteArray) : Int := if x = greedyS then 1 else if x = benefitS then 2 else 0
/-- The configuration that the words make. -/
def cfgOf (xs : List ByteArray) : Value := cfgV ((numL xs 0).1 : Int) ((numL xs 1).1 : Int) ((numL xs 2).1 : Int) ((numL xs 3).1 : Int) ((numL xs 4).1 : Int) ((numL xs 5).1 : Int) (polN (xs.getD 6 ⟨#[]⟩))
def goodW (xs : List ByteArray) : Prop := xs.length = 7 ∧ (∀ i, i < 6 → numOK xs i) ∧ cfgE ((numL xs 0).1 : Int) ((numL xs 1).1 : Int) ((numL xs 2).1 : Int) ((numL xs 3).1 : Int) ((numL xs 4).1 : Int) ((numL xs 5).1 : Int) (polN (xs.getD 6 ⟨#[]⟩)) = 0
abbrev cfg0 : Value := cfgV 0 0 0 0 0 0 0

theorem below_set {w w1 : World} {B : Nat} (h : Below B w w1) (b : Nat) (hb : B ≤ b) (j : Nat) (v : Value) : Below B w (w1.setCell ⟨b, j, none⟩ v) := h.setCell (p := ⟨b, j, none⟩) hb v
theorem below_set7 {w w1 : World} {B : Nat} (h : Below B w w1) (v0 v1 v2 v3 v4 v5 v6 : Value) :
    Below B w (((((((w1.setCell ⟨B, 0, none⟩ v0).setCell ⟨B, 1, none⟩ v1).setCell ⟨B, 2, none⟩ v2).setCell ⟨B, 3, none⟩ v3).setCell ⟨B, 4, none⟩ v4).setCell ⟨B, 5, none⟩ v5).setCell ⟨B, 6, none⟩ v6) :=
  below_set (below_set (below_set (below_set (below_set (below_set (below_set h B (Nat.le_refl _) 0 v0) B (Nat.le_refl _) 1 v1) B (Nat.le_refl _) 2 v2) B (Nat.le_refl _) 3 v3) B (Nat.le_refl _) 4 v4) B (Nat.le_refl _) 5 v5) B (Nat.le_refl _) 6 v6
/-- Strings in memory. -/
def StrAt (w : World) (B : Nat) (xs : List ByteArray) : Prop := ∀ j, j < xs.length → w.cell? ⟨B, j, none⟩ = some (.string (xs.getD j ⟨#[]⟩))
theorem StrAt.below {w w' : World} {B : Nat} {l : List ByteArray} (h : StrAt w B l) (hb : Below w.heap.size w w') : StrAt w' B l := fun j hj => cell_kept (h j hj) hb
theorem split_any (s : ByteArray) (hs : s.size ≤ 1000000) (m : Int) (w : World) (hm : w.cell? ⟨0, 0, none⟩ = some (.int .i64 m)) :
    Calls Tryd.prog 26 #[.string s, .string spS] w fun e w' => e = .returned (.slice (some ⟨w.heap.size, 0, none⟩) (Lib.countB s spS + 1) (Lib.countB s spS + 1)) ∧ StrAt w' w.heap.size (wordsL s) ∧ Below w.heap.size w w' := by
  refine (Tryd.strings_Split s spS m w (by omega) hm (by decide)).mono ?_
  rintro e w' ⟨rfl, rfl⟩
  refine ⟨rfl, fun j hj => ?_, (Below.refl _ _).alloc (Nat.le_refl _) _⟩
  have hh := heap_alloc_new w (.cells ((Lib.splitB spS 0 (Lib.countB s spS) s).map Value.string).toArray 9)
  rw [Lib.cell_of_heap hh, List.getElem?_toArray, List.getElem?_map, List.getD]
  show Option.map Value.string (wordsL s)[j]? = _
  rw [List.getElem?_eq_getElem hj]
  rfl
theorem new_cell {w : World} (cs : Array Value) (t : TypeId) (j : Nat) (v : Value) (h : cs[j]? = some v) : (w.alloc (.cells cs t)).cell? ⟨w.heap.size, j, none⟩ = some v := by
  rw [Lib.cell_of_heap (heap_alloc_new w _)]; exact h
theorem new_free {w : World} (cs : Array Value) (t : TypeId) (j : Nat) : (w.alloc (.cells cs t)).frozen? ⟨w.heap.size, j, none⟩ = false := Lib.frozen_of_heap (heap_alloc_new w _) j
theorem free_kept {w w' : World} {a : Addr} (h : w.frozen? a = false) (hl : a.block < w.heap.size) (hb : Below w.heap.size w w') : w'.frozen? a = false := by rw [hb.frozen hl]; exact h

/-- What is known behind the two allocations and a call. -/
theorem two_blocks (w w1 : World) (hb : Below ((w.alloc (.cells #[.int .i64 0, .int .i64 0, .int .i64 0, .int .i64 0, .int .i64 0, .int .i64 0, .int .i64 0] 23)).alloc (.cells #[.int .i64 0, .int .i64 0, .int .i64 0, .int .i64 0, .int .i64 0, .int .i64 0] 58)).heap.size ((w.alloc (.cells #[.int .i64 0, .int .i64 0, .int .i64 0, .int .i64 0, .int .i64 0, .int .i64 0, .int .i64 0] 23)).alloc (.cells #[.int .i64 0, .int .i64 0, .int .i64 0, .int .i64 0, .int .i64 0, .int .i64 0] 58)) w1) :
    Below w.heap.size w w1 ∧ (∀ j, j < 7 → w1.cell? ⟨w.heap.size, j, none⟩ = some (.int .i64 0)) ∧ (∀ j, w1.frozen? ⟨w.heap.size, j, none⟩ = false) ∧
    (∀ j, j < 6 → w1.cell? ⟨w.heap.size + 1, j, none⟩ = some (.int .i64 0)) ∧ (∀ j, w1.frozen? ⟨w.heap.size + 1, j, none⟩ = false) := by
  have e1 : (w.alloc (.cells #[.int .i64 0, .int .i64 0, .int .i64 0, .int .i64 0, .int .i64 0, .int .i64 0, .int .i64 0] 23)).heap.size = w.heap.size + 1 := by simp
  have h0 : w1.heap[w.heap.size]? = some (.cells #[.int .i64 0, .int .i64 0, .int .i64 0, .int .i64 0, .int .i64 0, .int .i64 0, .int .i64 0] 23 (0, 0)) := by
    rw [hb.block _ (by simp; omega), Below.heap_alloc _ _ _ (by simp), heap_alloc_new]
  have h1 : w1.heap[w.heap.size + 1]? = some (.cells #[.int .i64 0, .int .i64 0, .int .i64 0, .int .i64 0, .int .i64 0, .int .i64 0] 58 (0, 0)) := by
    rw [hb.block _ (by simp), ← e1, heap_alloc_new]
  refine ⟨(((Below.refl _ _).alloc (Nat.le_refl _) _).alloc (by simp) _).trans (hb.mono (by simp; omega)), fun j hj => ?_, fun j => Lib.frozen_of_heap h0 j, fun j hj => ?_, fun j => Lib.frozen_of_heap h1 j⟩
  · rw [Lib.cell_of_heap h0]
    match j, hj with
    | 0, _ => rfl
    | 1, _ => rfl
    | 2, _ => rfl
    | 3, _ => rfl
    | 4, _ => rfl
    | 5, _ => rfl
    | 6, _ => rfl
  · rw [Lib.cell_of_heap h1]
    match j, hj with
    | 0, _ => rfl
    | 1, _ => rfl
    | 2, _ => rfl
    | 3, _ => rfl
    | 4, _ => rfl
    | 5, _ => rfl
theorem wordsL_length (s : ByteArray) : (wordsL s).length = Lib.countB s spS + 1 := Lib.splitB_all spS (by decide) 0 _ s rfl

theorem splitB_size (sep : ByteArray) : ∀ (k : Nat) (s x : ByteArray), x ∈ Lib.splitB sep 0 k s → x.size ≤ s.size
  | 0, s, x, h => by
    rw [Lib.splitB_zero] at h
    simp at h
    rw [h]
    exact Nat.le_refl _
  | k + 1, s, x, h => by
    unfold Lib.splitB at h
    split at h
    · simp at h
      rw [h]
      exact Nat.le_refl _
    · rw [List.mem_cons] at h
      rcases h with h | h
      · rw [h, ByteArray.size_extract]; omega
      · have := splitB_size sep k _ x h
        rw [ByteArray.size_extract] at this
        omega
theorem words_size (s : ByteArray) (i : Nat) : ((wordsL s).getD i ⟨#[]⟩).size ≤ s.size := by
  by_cases h : i < (wordsL s).length
  · rw [List.getD, List.getElem?_eq_getElem h]
    exact splitB_size spS _ s _ (List.getElem_mem _)
  · rw [List.getD, List.getElem?_eq_none (by omega)]
    exact Nat.zero_le _
/-- What holds of the loop over the numbers: the result's block, the array's, the words. -/
def PI (w : World) (B1 : Nat) (xs : List ByteArray) (i : Nat) (wr : World) : Prop :=
  (∀ j, j < 7 → wr.cell? ⟨w.heap.size, j, none⟩ = some (.int .i64 0)) ∧ (∀ j, wr.frozen? ⟨w.heap.size, j, none⟩ = false) ∧
  (∀ j, j < 6 → wr.cell? ⟨w.heap.size + 1, j, none⟩ = some (.int .i64 (if j < i then ((numL xs j).1 : Int) else 0))) ∧ (∀ j, wr.frozen? ⟨w.heap.size + 1, j, none⟩ = false) ∧
  StrAt wr B1 xs ∧ Below w.heap.size w wr ∧ (∀ j, j < i → numOK xs j)
theorem PI.below {w wr w' : World} {B1 i : Nat} {xs : List ByteArray} (h : PI w B1 xs i wr) (hb : Below wr.heap.size wr w') : PI w B1 xs i w' := by
  obtain ⟨h1, h2, h3, h4, h5, h6, h7⟩ := h
  have l1 := World.block_lt_of_cell? wr _ (h1 0 (by decide))
  have l2 := World.block_lt_of_cell? wr _ (h3 0 (by decide))
  exact ⟨fun j hj => cell_kept (h1 j hj) hb, fun j => free_kept (h2 j) l1 hb, fun j hj => cell_kept (h3 j hj) hb, fun j => free_kept (h4 j) l2 hb, h5.below hb, h6.trans (hb.mono h6.size), h7⟩
theorem PI.step {w wr : World} {B1 i : Nat} {xs : List ByteArray} (h : PI w B1 xs i wr) (hi : i < 6) (hB : w.heap.size + 1 < B1) (ho : numOK xs i) :
    PI w B1 xs (i + 1) (wr.setCell ⟨w.heap.size + 1, i, none⟩ (.int .i64 ((numL xs i).1 : Int))) := by
  obtain ⟨h1, h2, h3, h4, h5, h6, h7⟩ := h
  refine ⟨fun j hj => ?_, fun j => ?_, fun j hj => ?_, fun j => ?_, fun j hj => ?_, below_set h6 _ (by omega) _ _, fun j hj => ?_⟩
  · rw [World.cell?_setCell_other (h := by intro he; injection he with e1; omega)]; exact h1 j hj
  · rw [World.frozen?_setCell]; exact h2 j
  · by_cases hji : j = i
    · subst hji
      rw [World.cell?_setCell_same (h := h3 j hj), if_pos (by omega)]
    · rw [World.cell?_setCell_other (h := by intro he; injection he with e1 e2; omega), h3 j hj]
      congr 2
      by_cases hlt : j < i
      · rw [if_pos hlt, if_pos (by omega)]
      · rw [if_neg hlt, if_neg (by omega)]
  · rw [World.frozen?_setCell]; exact h4 j
  · rw [World.cell?_setCell_other (h := by intro he; injection he with e1; omega)]; exact h5 j hj
  · by_cases hji : j = i
    · rw [hji]; exact ho
    · exact h7 j (by omega)

/-- What holds of the loop over the words of the policies. -/
def PJ (w : World) (C W B1 : Nat) (xs : List ByteArray) (q : Int) (wr : World) : Prop :=
  ((∀ j, j < 7 → wr.cell? ⟨w.heap.size, j, none⟩ = some (.int .i64 0)) ∧ (∀ j, wr.frozen? ⟨w.heap.size, j, none⟩ = false)) ∧
  (CfgAt wr C ((numL xs 0).1 : Int) ((numL xs 1).1 : Int) ((numL xs 2).1 : Int) ((numL xs 3).1 : Int) ((numL xs 4).1 : Int) ((numL xs 5).1 : Int) q ∧ (∀ j, wr.frozen? ⟨C, j, none⟩ = false)) ∧
  WordsAt wr W ∧ wr.cell? ⟨B1, 6, none⟩ = some (.string (xs.getD 6 ⟨#[]⟩)) ∧ Below w.heap.size w wr
theorem PJ.store {w wr : World} {C W B1 : Nat} {xs : List ByteArray} {q : Int} (h : PJ w C W B1 xs q wr) (h1 : w.heap.size < C) (h2 : B1 < C) (h3 : C < W) (q' : Int) :
    PJ w C W B1 xs q' (wr.setCell ⟨C, 6, none⟩ (.int .i64 q')) := by
  obtain ⟨⟨g1, g2⟩, ⟨⟨k0, k1, k2, k3, k4, k5, k6⟩, g3⟩, ⟨q0, q1, q2⟩, g4, g5⟩ := h
  have ot : ∀ (b j : Nat), (b ≠ C ∨ j ≠ 6) → (wr.setCell ⟨C, 6, none⟩ (.int .i64 q')).cell? ⟨b, j, none⟩ = wr.cell? ⟨b, j, none⟩ := fun b j hn => World.cell?_setCell_other wr ⟨C, 6, none⟩ ⟨b, j, none⟩ _ (by intro he; injection he with e1 e2; omega)
  refine ⟨⟨fun j hj => by rw [ot _ _ (Or.inl (by omega))]; exact g1 j hj, fun j => by rw [World.frozen?_setCell]; exact g2 j⟩, ⟨⟨?_, ?_, ?_, ?_, ?_, ?_, ?_⟩, fun j => by rw [World.frozen?_setCell]; exact g3 j⟩, ⟨?_, ?_, ?_⟩, ?_, below_set g5 _ (by omega) _ _⟩
  · rw [ot _ _ (Or.inr (by decide))]; exact k0
  · rw [ot _ _ (Or.inr (by decide))]; exact k1
  · rw [ot _ _ (Or.inr (by decide))]; exact k2
  · rw [ot _ _ (Or.inr (by decide))]; exact k3
  · rw [ot _ _ (Or.inr (by decide))]; exact k4
  · rw [ot _ _ (Or.inr (by decide))]; exact k5
  · exact World.cell?_setCell_same wr ⟨C, 6, none⟩ _ k6
  · rw [ot _ _ (Or.inl (by omega))]; exact q0
  · rw [ot _ _ (Or.inl (by omega))]; exact q1
  · rw [ot _ _ (Or.inl (by omega))]; exact q2
  · rw [ot _ _ (Or.inl (by omega))]; exact g4
def pol2 (y : ByteArray) : Int := if y = greedyS then 1 else 0
def RJ (w : World) (C W B1 : Nat) (xs : List ByteArray) (y : ByteArray) (vi : Value) (wr : World) : Prop :=
  (vi = .int .i64 0 ∧ PJ w C W B1 xs 0 wr) ∨ (vi = .int .i64 1 ∧ PJ w C W B1 xs 0 wr) ∨ (vi = .int .i64 2 ∧ PJ w C W B1 xs (pol2 y) wr) ∨ (vi = .int .i64 3 ∧ PJ w C W B1 xs (polN y) wr)
def polAt (y : ByteArray) (k : Nat) : Int := if k ≤ 1 then 0 else if k = 2 then (if y = greedyS then 1 else 0) else polN y

set_option maxRecDepth 100000 in
set_option maxHeartbeats 8000000 in
theorem cParse_any (s : ByteArray) (hs : s.size ≤ 1000000) (m : Int) (w : World) (ht : Tab w) (hm : w.cell? ⟨0, 0, none⟩ = some (.int .i64 m)) :
    Calls Tryd.prog 23 #[.string s] w fun x w' => ((goodW (wordsL s) ∧ x = .returned (.tuple #[cfgOf (wordsL s), .int .i64 0])) ∨ (¬ goodW (wordsL s) ∧ x = .returned (.tuple #[cfg0, .int .i64 8]))) ∧ Below w.heap.size w w' := by
  have HT := Lib.hid ht
  have HM := Lib.hid hm
  clear ht hm
  by_cases h7 : Lib.countB s spS = 6
  · have HL : Hid ((wordsL s).length = 7) := by show _ = _; rw [wordsL_length, h7]
    have HW := Lib.hid (words_size s)
    have H7 := Lib.hid h7
    clear h7
    obtain ⟨xs, hxs⟩ : ∃ xs, wordsL s = xs := ⟨_, rfl⟩
    have HXS := Lib.hid hxs
    go_enter Tryd.func23, Tryd.ntmps23
    go_wp2_with fail
    refine (split_any s hs m _ (cell_old (cell_old HM.out))).mono ?_
    rw [H7.out]
    rintro e w1 ⟨rfl, hx, b1⟩
    rw [hxs] at hx HL HW
    clear hxs
    have hB : w.heap.size + 1 < ((w.alloc (.cells #[.int .i64 0, .int .i64 0, .int .i64 0, .int .i64 0, .int .i64 0, .int .i64 0, .int .i64 0] 23)).alloc (.cells #[.int .i64 0, .int .i64 0, .int .i64 0, .int .i64 0, .int .i64 0, .int .i64 0] 58)).heap.size := by simp
    have hP : PI w ((w.alloc (.cells #[.int .i64 0, .int .i64 0, .int .i64 0, .int .i64 0, .int .i64 0, .int .i64 0, .int .i64 0] 23)).alloc (.cells #[.int .i64 0, .int .i64 0, .int .i64 0, .int .i64 0, .int .i64 0, .int .i64 0] 58)).heap.size xs 0 w1 := by
      obtain ⟨c1, hR, hRf, hA, hAf⟩ := two_blocks w w1 b1
      exact ⟨hR, hRf, fun j hj => by rw [hA j hj, if_neg (Nat.not_lt_zero _)], hAf, hx, c1, fun j hj => absurd hj (Nat.not_lt_zero _)⟩
    clear hx b1
    generalize ((w.alloc (.cells #[.int .i64 0, .int .i64 0, .int .i64 0, .int .i64 0, .int .i64 0, .int .i64 0, .int .i64 0] 23)).alloc (.cells #[.int .i64 0, .int .i64 0, .int .i64 0, .int .i64 0, .int .i64 0, .int .i64 0] 58)).heap.size = B1 at *
    have HP := Lib.hid hP
    clear hP
    go_wp2_with fail
    go_loopw [18] (fun vi wr => ∃ i : Nat, i ≤ 6 ∧ vi = .int .i64 i ∧ Hid (PI w B1 xs i wr)) (fun vi _ => 6 - (intOf vi).toNat)
    case atStart => exact ⟨0, Nat.zero_le _, rfl, HP⟩
    case round =>
      clear HP
      obtain ⟨i, hi, rfl, hP⟩ := hrel
      by_cases hlt : i < 6
      · have hcw := hP.out.2.2.2.2.1 i (by rw [HL.out]; omega)
        have hsz := HW.out i
        obtain ⟨x, hx⟩ : ∃ x, xs.getD i ⟨#[]⟩ = x := ⟨_, rfl⟩
        rw [hx] at hcw hsz
        obtain ⟨n, e, hne⟩ : ∃ n e, digV x.data.toList = (n, e) := ⟨_, _, rfl⟩
        have hnum : numL xs i = (n, e) := by unfold numL; rw [hx]; exact hne
        have HN := Lib.hid hne
        have HNU := Lib.hid hnum
        clear hx hne hnum
        go_wp2_with fail
        refine (parseDigits_any x _ (by omega) (HT.out.below hP.out.2.2.2.2.2.1)).mono ?_
        rw [HN.out]
        rintro e2 w2 ⟨rfl, b1⟩
        have hP2 := Lib.hid (hP.out.below b1)
        clear hP b1 hcw
        have hR := hP2.out.1
        have hRf := hP2.out.2.1
        have c1 := hP2.out.2.2.2.2.2.1
        by_cases hok : e = 0 ∧ n ≤ 65536
        · obtain ⟨rfl, hn6⟩ := hok
          have d1 : decide ((65536 : Int) < (n : Int)) = false := by rw [decide_eq_false_iff_not]; omega
          have hca := hP2.out.2.2.1 i hlt
          have hfa := hP2.out.2.2.2.1 i
          have hst := Lib.hid (hP2.out.step hlt hB ⟨by rw [HNU.out], by rw [HNU.out]; exact hn6⟩)
          rw [HNU.out] at hst
          have wn : IntKind.i64.wrap (n : Int) = (n : Int) := IntWalk.i64_in _ (by omega)
          clear hR hRf c1 hP2 hn6
          go_wp2_with fail
          go_roundw
          case rel => exact ⟨i + 1, by omega, by go_num, hst⟩
          case measure => simp [intOf]; omega
        · have hng : Hid (¬ goodW (wordsL s)) := by
            intro h
            rw [HXS.out] at h
            have := h.2.1 i hlt
            unfold numOK at this
            rw [HNU.out] at this
            exact hok this
          have hd : (e != 0) = true ∨ ((e != 0) = false ∧ decide ((65536 : Int) < (n : Int)) = true) := by
            by_cases h : e = 0
            · exact Or.inr ⟨by rw [h]; rfl, by rw [decide_eq_true_iff]; omega⟩
            · exact Or.inl (by rw [bne_iff_ne]; exact h)
          clear hok hP2
          rcases hd with d1 | ⟨d1, d2⟩
          · skip
            have r0 := hR 0 (by decide)
            have r1 := hR 1 (by decide)
            have r2 := hR 2 (by decide)
            have r3 := hR 3 (by decide)
            have r4 := hR 4 (by decide)
            have r5 := hR 5 (by decide)
            have r6 := hR 6 (by decide)
            have f0 := hRf 0
            have f1 := hRf 1
            have f2 := hRf 2
            have f3 := hRf 3
            have f4 := hRf 4
            have f5 := hRf 5
            have f6 := hRf 6
            clear hR hRf
            go_wp2_with fail
            refine bodyPost_ret (v := .tuple #[cfg0, .int .i64 8]) (by simp [results, Tryd.results23, go_sem, r0, r1, r2, r3, r4, r5, r6]) rfl ⟨Or.inr ⟨hng.out, rfl⟩, ?_⟩
            exact below_set7 c1 _ _ _ _ _ _ _
          · skip
            have r0 := hR 0 (by decide)
            have r1 := hR 1 (by decide)
            have r2 := hR 2 (by decide)
            have r3 := hR 3 (by decide)
            have r4 := hR 4 (by decide)
            have r5 := hR 5 (by decide)
            have r6 := hR 6 (by decide)
            have f0 := hRf 0
            have f1 := hRf 1
            have f2 := hRf 2
            have f3 := hRf 3
            have f4 := hRf 4
            have f5 := hRf 5
            have f6 := hRf 6
            clear hR hRf
            go_wp2_with fail
            refine bodyPost_ret (v := .tuple #[cfg0, .int .i64 8]) (by simp [results, Tryd.results23, go_sem, r0, r1, r2, r3, r4, r5, r6]) rfl ⟨Or.inr ⟨hng.out, rfl⟩, ?_⟩
            exact below_set7 c1 _ _ _ _ _ _ _
      · obtain rfl : i = 6 := by omega
        have a0 := hP.out.2.2.1 0 (by decide)
        have a1 := hP.out.2.2.1 1 (by decide)
        have a2 := hP.out.2.2.1 2 (by decide)
        have a3 := hP.out.2.2.1 3 (by decide)
        have a4 := hP.out.2.2.1 4 (by decide)
        have a5 := hP.out.2.2.1 5 (by decide)
        rw [if_pos (by decide)] at a0 a1 a2 a3 a4 a5
        clear hlt hi
        have hPx := hP.out
        have hBr : B1 < wr.heap.size := World.block_lt_of_cell? wr _ (hP.out.2.2.2.2.1 6 (by rw [HL.out]; decide))
        have hRr : w.heap.size < wr.heap.size := World.block_lt_of_cell? wr _ (hP.out.1 0 (by decide))
        have HPx := Lib.hid hPx
        have HOK := Lib.hid hPx.2.2.2.2.2.2
        clear hPx hP
        go_wp2_with fail
        refine (words_any _).mono ?_
        rintro e w3 ⟨rfl, hw, b1⟩
        have hPJ : Hid (PJ w wr.heap.size (wr.heap.size + 1) B1 xs 0 w3) := by
          have hz : (wr.alloc (.cells #[.int .i64 ((numL xs 0).1 : Int), .int .i64 ((numL xs 1).1 : Int), .int .i64 ((numL xs 2).1 : Int), .int .i64 ((numL xs 3).1 : Int), .int .i64 ((numL xs 4).1 : Int), .int .i64 ((numL xs 5).1 : Int), .int .i64 0] 23)).heap.size = wr.heap.size + 1 := by simp
          obtain ⟨k0, k1, k2, k3, k4, k5, k6⟩ := cfgAt_new wr ((numL xs 0).1 : Int) ((numL xs 1).1 : Int) ((numL xs 2).1 : Int) ((numL xs 3).1 : Int) ((numL xs 4).1 : Int) ((numL xs 5).1 : Int) 0 23
          have hB2 := b1
          refine ⟨⟨fun j hj => cell_kept (cell_old (HPx.out.1 j hj)) b1, fun j => free_kept (by rw [((Below.refl wr.heap.size wr).alloc (Nat.le_refl _) _).frozen (p := ⟨w.heap.size, j, none⟩) hRr]; exact HPx.out.2.1 j) (by simp; omega) b1⟩, ⟨⟨cell_kept k0 b1, cell_kept k1 b1, cell_kept k2 b1, cell_kept k3 b1, cell_kept k4 b1, cell_kept k5 b1, cell_kept k6 b1⟩, fun j => free_kept (new_free _ _ j) (by simp) b1⟩, ?_, cell_kept (cell_old (HPx.out.2.2.2.2.1 6 (by rw [HL.out]; decide))) b1, ?_⟩
          · rw [← hz]; exact hw
          · exact (HPx.out.2.2.2.2.2.1.alloc (by omega) _).trans (b1.mono (by simp; omega))
        clear hw b1 a0 a1 a2 a3 a4 a5
        obtain ⟨C, hC⟩ : ∃ C, wr.heap.size = C := ⟨_, rfl⟩
        have HCe := Lib.hid hC
        rw [hC] at hPJ hBr hRr
        clear hC HPx
        obtain ⟨y, hy⟩ : ∃ y, xs.getD 6 ⟨#[]⟩ = y := ⟨_, rfl⟩
        have HY := Lib.hid hy
        clear hy
        go_wp2_with fail
        rw [HCe.out]
        go_loopw [56] (fun vi wr => RJ w C (C + 1) B1 xs y vi wr) (fun vi _ => 3 - (intOf vi).toNat)
        case atStart => exact Or.inl ⟨rfl, hPJ.out⟩
        case round =>
          clear hPJ
          rcases hrel with ⟨rfl, hJ⟩ | ⟨rfl, hJ⟩ | ⟨rfl, hJ⟩ | ⟨rfl, hJ⟩
          · have HJ := Lib.hid hJ
            obtain ⟨⟨g1, g2⟩, ⟨⟨k0, k1, k2, k3, k4, k5, k6⟩, g3⟩, ⟨q0, q1, q2⟩, g4, g5⟩ := hJ
            rw [HY.out] at g4
            clear g1 g2 g3 g5
            go_wp2_with fail
            go_roundw
            case rel => exact Or.inr (Or.inl ⟨rfl, HJ.out⟩)
            case measure => simp [intOf]
          · have HJ := Lib.hid hJ
            obtain ⟨⟨g1, g2⟩, ⟨⟨k0, k1, k2, k3, k4, k5, k6⟩, g3⟩, ⟨q0, q1, q2⟩, g4, g5⟩ := hJ
            rw [HY.out] at g4
            have g36 := g3 6
            clear g1 g2 g3 g5
            by_cases hy : y = greedyS
            · have e1 : (([103, 114, 101, 101, 100, 121] : List UInt8) == y.toList) = true := by rw [hy, show greedyS.toList = [103, 114, 101, 101, 100, 121] by rw [ByteArray.toList_eq]]; rfl
              have hp : Hid (pol2 y = 1) := by show _ = _; unfold pol2; rw [if_pos hy]
              have hst := Lib.hid (HJ.out.store (by omega) (by omega) (by omega) 1)
              clear hy
              go_wp2_with fail
              go_roundw
              case rel => exact Or.inr (Or.inr (Or.inl ⟨rfl, by rw [hp.out]; exact hst.out⟩))
              case measure => simp [intOf]
            · have e1 : (([103, 114, 101, 101, 100, 121] : List UInt8) == y.toList) = false := by
                rw [beq_eq_false_iff_ne, ByteArray.toList_eq]
                intro h
                exact hy (by apply ByteArray.ext; apply Array.ext'; exact h.symm)
              have hp : Hid (pol2 y = 0) := by show _ = _; unfold pol2; rw [if_neg hy]
              clear hy
              go_wp2_with fail
              go_roundw
              case rel => exact Or.inr (Or.inr (Or.inl ⟨rfl, by rw [hp.out]; exact HJ.out⟩))
              case measure => simp [intOf]
          · have HJ := Lib.hid hJ
            obtain ⟨⟨g1, g2⟩, ⟨⟨k0, k1, k2, k3, k4, k5, k6⟩, g3⟩, ⟨q0, q1, q2⟩, g4, g5⟩ := hJ
            rw [HY.out] at g4
            have g36 := g3 6
            clear g1 g2 g3 g5
            by_cases hy : y = benefitS
            · have e1 : (([98, 101, 110, 101, 102, 105, 116] : List UInt8) == y.toList) = true := by rw [hy, show benefitS.toList = [98, 101, 110, 101, 102, 105, 116] by rw [ByteArray.toList_eq]]; rfl
              have hp : Hid (polN y = 2) := by show _ = _; unfold polN; rw [hy]; decide
              have hst := Lib.hid (HJ.out.store (by omega) (by omega) (by omega) 2)
              clear hy
              go_wp2_with fail
              go_roundw
              case rel => exact Or.inr (Or.inr (Or.inr ⟨rfl, by rw [hp.out]; exact hst.out⟩))
              case measure => simp [intOf]
            · have e1 : (([98, 101, 110, 101, 102, 105, 116] : List UInt8) == y.toList) = false := by
                rw [beq_eq_false_iff_ne, ByteArray.toList_eq]
                intro h
                exact hy (by apply ByteArray.ext; apply Array.ext'; exact h.symm)
              have hp : Hid (polN y = pol2 y) := by show _ = _; unfold polN pol2; rw [if_neg hy]
              clear hy
              go_wp2_with fail
              go_roundw
              case rel => exact Or.inr (Or.inr (Or.inr ⟨rfl, by rw [hp.out]; exact HJ.out⟩))
              case measure => simp [intOf]
          · have HJ := Lib.hid hJ
            obtain ⟨⟨g1, g2⟩, ⟨⟨k0, k1, k2, k3, k4, k5, k6⟩, g3⟩, _, _, g5⟩ := hJ
            have l1 := World.block_lt_of_cell? wr _ (g1 0 (by decide))
            go_wp2_with fail
            refine (check_any _ _ _ _ _ _ _ _).mono ?_
            rcases cfg_cases ((numL xs 0).1 : Int) ((numL xs 1).1 : Int) ((numL xs 2).1 : Int) ((numL xs 3).1 : Int) ((numL xs 4).1 : Int) ((numL xs 5).1 : Int) (polN y) with ⟨hE, _⟩ | hE
            · have hg : Hid (goodW (wordsL s)) := by
                show goodW _
                rw [HXS.out]
                exact ⟨HL.out, HOK.out, by rw [HY.out]; exact hE⟩
              rw [hE]
              clear hE
              rintro e w4 ⟨rfl, b1⟩
              have c4 := g5.trans (b1.mono g5.size)
              have r0 := cell_kept (g1 0 (by decide)) b1
              have r1 := cell_kept (g1 1 (by decide)) b1
              have r2 := cell_kept (g1 2 (by decide)) b1
              have r3 := cell_kept (g1 3 (by decide)) b1
              have r4 := cell_kept (g1 4 (by decide)) b1
              have r5 := cell_kept (g1 5 (by decide)) b1
              have r6 := cell_kept (g1 6 (by decide)) b1
              have f0 := free_kept (g2 0) l1 b1
              have f1 := free_kept (g2 1) l1 b1
              have f2 := free_kept (g2 2) l1 b1
              have f3 := free_kept (g2 3) l1 b1
              have f4 := free_kept (g2 4) l1 b1
              have f5 := free_kept (g2 5) l1 b1
              have f6 := free_kept (g2 6) l1 b1
              have k0 := cell_kept k0 b1
              have k1 := cell_kept k1 b1
              have k2 := cell_kept k2 b1
              have k3 := cell_kept k3 b1
              have k4 := cell_kept k4 b1
              have k5 := cell_kept k5 b1
              have k6 := cell_kept k6 b1
              clear g1 g2 g3 g5 b1 HJ l1
              go_wp2_with fail
              refine bodyPost_ret (v := .tuple #[cfgV ((numL xs 0).1 : Int) ((numL xs 1).1 : Int) ((numL xs 2).1 : Int) ((numL xs 3).1 : Int) ((numL xs 4).1 : Int) ((numL xs 5).1 : Int) (polN y), .int .i64 0]) (by simp [results, Tryd.results23, go_sem, r0, r1, r2, r3, r4, r5, r6]) rfl ⟨Or.inl ⟨hg.out, by rw [HXS.out]; unfold cfgOf; rw [HY.out]⟩, ?_⟩
              exact below_set7 c4 _ _ _ _ _ _ _
            · have hng : Hid (¬ goodW (wordsL s)) := by
                intro h
                rw [HXS.out] at h
                have := h.2.2
                rw [HY.out, hE] at this
                cases this
              rw [hE]
              clear hE
              rintro e w4 ⟨rfl, b1⟩
              have c4 := g5.trans (b1.mono g5.size)
              have r0 := cell_kept (g1 0 (by decide)) b1
              have r1 := cell_kept (g1 1 (by decide)) b1
              have r2 := cell_kept (g1 2 (by decide)) b1
              have r3 := cell_kept (g1 3 (by decide)) b1
              have r4 := cell_kept (g1 4 (by decide)) b1
              have r5 := cell_kept (g1 5 (by decide)) b1
              have r6 := cell_kept (g1 6 (by decide)) b1
              have f0 := free_kept (g2 0) l1 b1
              have f1 := free_kept (g2 1) l1 b1
              have f2 := free_kept (g2 2) l1 b1
              have f3 := free_kept (g2 3) l1 b1
              have f4 := free_kept (g2 4) l1 b1
              have f5 := free_kept (g2 5) l1 b1
              have f6 := free_kept (g2 6) l1 b1
              clear g1 g2 g3 g5 b1 HJ l1
              go_wp2_with fail
              refine bodyPost_ret (v := .tuple #[cfg0, .int .i64 8]) (by simp [results, Tryd.results23, go_sem, r0, r1, r2, r3, r4, r5, r6]) rfl ⟨Or.inr ⟨hng.out, rfl⟩, ?_⟩
              exact below_set7 c4 _ _ _ _ _ _ _
  · have hne : ((Lib.countB s spS : Int) + 1 != 7) = true := by rw [bne_iff_ne]; omega
    have hne2 : (Lib.countB s spS + 1 != 7) = true := by rw [bne_iff_ne]; omega
    have hne3 : (Lib.countB s spS != 6) = true := by rw [bne_iff_ne]; omega
    have hne4 : ((Lib.countB s spS : Int) != 6) = true := by rw [bne_iff_ne]; omega
    obtain ⟨k, hk⟩ : ∃ k, Lib.countB s spS = k := ⟨_, rfl⟩
    have HK := Lib.hid hk
    rw [hk] at hne hne2 hne3 hne4
    clear hk h7
    go_enter Tryd.func23, Tryd.ntmps23
    go_wp2_with fail
    refine (split_any s hs m _ (cell_old (cell_old HM.out))).mono ?_
    rintro e w1 ⟨rfl, hx, b1⟩
    obtain ⟨c1, hR, hRf, _, _⟩ := two_blocks w w1 b1
    have r0 := hR 0 (by decide)
    have r1 := hR 1 (by decide)
    have r2 := hR 2 (by decide)
    have r3 := hR 3 (by decide)
    have r4 := hR 4 (by decide)
    have r5 := hR 5 (by decide)
    have r6 := hR 6 (by decide)
    have f0 := hRf 0
    have f1 := hRf 1
    have f2 := hRf 2
    have f3 := hRf 3
    have f4 := hRf 4
    have f5 := hRf 5
    have f6 := hRf 6
    clear hx b1 hR hRf
    rw [HK.out]
    go_wp2_with fail
    have hng : ¬ goodW (wordsL s) := fun h => by
      have := h.1
      rw [wordsL_length, HK.out] at this
      obtain rfl : k = 6 := by omega
      simp at hne3
    refine bodyPost_ret (v := .tuple #[cfg0, .int .i64 8]) (by simp [results, Tryd.results23, go_sem, r0, r1, r2, r3, r4, r5, r6]) rfl ⟨Or.inr ⟨hng, rfl⟩, ?_⟩
    exact below_set7 c1 _ _ _ _ _ _ _
end Go.Proofs.YtllgnogiicdhfaaDoor
