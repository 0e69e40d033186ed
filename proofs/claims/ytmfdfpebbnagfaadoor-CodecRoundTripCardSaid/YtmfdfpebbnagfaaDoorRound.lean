/-
  Numbers encoded one behind the other, and slices of numbers in memory.
  Conditions: none.
-/
import Derived.Test.YtmfdfpebbnagfaaDoorWalks01e
import Derived.Maps.AppendAt
import Derived.ChangeSlices
import Derived.Carry
import Derived.Deep.DeepHandedRow
set_option linter.unusedVariables false
namespace Go.Proofs.YtmfdfpebbnagfaaDoor
open Go Go.RowKit Go.ChangeShapes Go.WideShapes Go.ChangeAt

/-- The numbers' bytes, one behind the other. -/
def encL : List Nat → List Nat → List UInt8
  | z :: zs, x :: ws => leL z x ++ encL zs ws
  | _, _ => []
def sumL : List Nat → Nat
  | [] => 0
  | x :: ws => x + sumL ws
theorem sumL_append (a b : List Nat) : sumL (a ++ b) = sumL a + sumL b := by
  induction a with
  | nil => simp [sumL]
  | cons x r ih => simp [sumL, ih]; omega
theorem encL_nil (zs : List Nat) : encL zs [] = [] := by cases zs <;> rfl
theorem encL_length : ∀ (zs ws : List Nat), ws.length ≤ zs.length → (encL zs ws).length = sumL ws
  | zs, [], _ => by rw [encL_nil]; rfl
  | [], x :: ws, h => by simp at h
  | z :: zs, x :: ws, h => by
    have := encL_length zs ws (by simpa using h)
    simp [encL, sumL, leL_length, this]
theorem encL_snoc : ∀ (zs ws : List Nat) (x : Nat), ws.length < zs.length → encL zs (ws ++ [x]) = encL zs ws ++ leL (zs.getD ws.length 0) x
  | [], ws, x, h => by simp at h
  | z :: zs, [], x, h => by
    show leL z x ++ encL zs [] = encL (z :: zs) [] ++ leL z x
    rw [encL_nil, encL_nil]
    simp
  | z :: zs, y :: ws, x, h => by
    have ih := encL_snoc zs ws x (by simpa using h)
    show leL z y ++ encL zs (ws ++ [x]) = (leL z y ++ encL zs ws) ++ leL ((z :: zs).getD (ws.length + 1) 0) x
    rw [ih, List.append_assoc]
    rfl
/-- What stands at the place of a number is its encoding. -/
theorem encL_at : ∀ (zs ws : List Nat) (j : Nat), j < ws.length → ws.length ≤ zs.length → ((encL zs ws).drop (sumL (ws.take j))).take (ws.getD j 0) = leL (zs.getD j 0) (ws.getD j 0)
  | [], ws, j, h, h2 => by simp at h2; subst h2; simp at h
  | z :: zs, [], j, h, _ => by simp at h
  | z :: zs, y :: ws, 0, _, _ => by
    show ((leL z y ++ encL zs ws).drop 0).take y = leL z y
    rw [List.drop_zero, List.take_append_of_le_length (by rw [leL_length]; exact Nat.le_refl _), List.take_of_length_le (by rw [leL_length]; exact Nat.le_refl _)]
  | z :: zs, y :: ws, j + 1, h, h2 => by
    have ih := encL_at zs ws j (by simpa using h) (by simpa using h2)
    show ((leL z y ++ encL zs ws).drop (y + sumL (ws.take j))).take (ws.getD j 0) = leL (zs.getD j 0) (ws.getD j 0)
    rw [List.drop_append, leL_length, show y + sumL (ws.take j) - y = sumL (ws.take j) by omega, List.drop_eq_nil_of_le (by rw [leL_length]; omega), List.nil_append]
    exact ih
theorem sumL_take_le : ∀ (ws : List Nat) (j : Nat), j < ws.length → sumL (ws.take j) + ws.getD j 0 ≤ sumL ws
  | [], j, h => by simp at h
  | y :: ws, 0, _ => by simp [sumL]
  | y :: ws, j + 1, h => by
    have := sumL_take_le ws j (by simpa using h)
    simp [sumL]
    simp at this
    omega
/-- All widths are widths, and the numbers fit. -/
def FitL (zs ws : List Nat) : Prop := ∀ j, j < ws.length → isW ((ws.getD j 0 : Nat) : Int) = true ∧ fitsV (zs.getD j 0) ((ws.getD j 0 : Nat) : Int) = true
theorem fitL_snoc {zs ws : List Nat} {x : Nat} (h : FitL zs ws) (h1 : isW (x : Int) = true) (h2 : fitsV (zs.getD ws.length 0) (x : Int) = true) : FitL zs (ws ++ [x]) := by
  intro j hj
  by_cases hlt : j < ws.length
  · have e : (ws ++ [x]).getD j 0 = ws.getD j 0 := by simp [List.getD, List.getElem?_append_left hlt]
    rw [e]
    exact h j hlt
  · obtain rfl : j = ws.length := by simp at hj; omega
    have e : (ws ++ [x]).getD ws.length 0 = x := by simp [List.getD]
    rw [e]
    exact ⟨h1, h2⟩
theorem getD_snoc (l : List Nat) (x : Nat) : (l ++ [x]).getD l.length 0 = x := by simp [List.getD]
/-- What is decoded at a number's place. -/
theorem uintV_enc {lb : List UInt8} {zs ws : List Nat} {j : Nat} (h : j < ws.length) (h2 : ws.length ≤ zs.length) (hf : FitL zs ws) :
    uintV (lb ++ encL zs ws) ((lb.length + sumL (ws.take j) : Nat) : Int) ((ws.getD j 0 : Nat) : Int) = (zs.getD j 0, 0) := by
  obtain ⟨h3, h4⟩ := hf j h
  have hle := sumL_take_le ws j h
  have hlen := encL_length zs ws h2
  rw [uintV_ok h3 (by rw [List.length_append, hlen]; omega)]
  congr 1
  rw [List.drop_append, show lb.length + sumL (ws.take j) - lb.length = sumL (ws.take j) by omega, List.drop_eq_nil_of_le (by omega), List.nil_append, encL_at zs ws j h h2, unle_leL]
  refine Nat.mod_eq_of_lt ?_
  unfold fitsV at h4
  exact of_decide_eq_true (Bool.and_eq_true_iff.mp h4).2
/-- The offsets. -/
def offL (m : Nat) (ws : List Nat) : List Nat := (List.range ws.length).map fun j => m + sumL (ws.take j)
theorem offL_length (m : Nat) (ws : List Nat) : (offL m ws).length = ws.length := by simp [offL]
theorem offL_getD (m : Nat) (ws : List Nat) (j : Nat) (h : j < ws.length) : (offL m ws).getD j 0 = m + sumL (ws.take j) := by
  unfold offL
  rw [List.getD, List.getElem?_map, List.getElem?_range h]
  rfl
theorem offL_snoc (m : Nat) (ws : List Nat) (x : Nat) : offL m (ws ++ [x]) = offL m ws ++ [m + sumL ws] := by
  unfold offL
  rw [List.length_append, List.length_singleton, List.range_succ, List.map_append]
  congr 1
  · refine List.map_congr_left fun j hj => ?_
    have hj : j < ws.length := by simpa using hj
    rw [List.take_append_of_le_length (by omega)]
  · simp
def intCells (l : List Nat) : List Value := l.map fun n : Nat => Value.int .i64 (n : Int)
theorem intCells_snoc (l : List Nat) (x : Nat) : intCells l ++ [Value.int .i64 (x : Int)] = intCells (l ++ [x]) := by simp [intCells]
theorem intCells_length (l : List Nat) : (intCells l).length = l.length := by simp [intCells]
/-- A slice that reads as numbers of eight bytes. -/
def U64At (w : World) (v : Value) (l : List Nat) : Prop := ∃ p c, v = .slice p l.length c ∧ l.length ≤ c ∧ (∀ i, i < l.length → l.getD i 0 < 256 ^ 8) ∧ (0 < l.length → ∃ b o, p = some ⟨b, o, none⟩ ∧ ∀ i, i < l.length → w.cell? ⟨b, o + i, none⟩ = some (.int .u64 ((l.getD i 0 : Nat) : Int)))
theorem cellsU64' : Tryd.prog.cellsOf 23 = 1 := by kernel_rfl
theorem open_u64s {H : Type} {enc : TypeId × Value → H} {W : World} {v : Value} {d : DataW H} {ps : List MemPlace} (h : DataW.Trod enc Tryd.prog W 0 (fun _ => true) true 47 v d ps)
    (hv : ∃ a len cap, v = .slice a len cap) : ∃ l, U64At W v l := by
  obtain ⟨a0, n0, c0, rfl⟩ := hv
  obtain ⟨fuel, hf⟩ := h
  rcases open_ints Tryd.underlying47 Tryd.underlying23 cellsU64' hf with ⟨hcs, hx⟩ | ⟨a, len, cap, zs, hcs, _, hl, hm, hz, hx, hcell, hwz⟩
  · simp [Value.cells] at hcs
    obtain ⟨rfl, rfl, rfl⟩ := hcs
    exact ⟨[], none, 0, rfl, Nat.le_refl _, fun i hi => by simp at hi, fun h0 => by simp at h0⟩
  · simp [Value.cells] at hcs
    obtain ⟨rfl, rfl, rfl⟩ := hcs
    have hzl : n0 ≤ zs.length := by rw [hz]; simp; omega
    have hlen : ((zs.take n0).map Int.toNat).length = n0 := by rw [List.length_map, List.length_take, Nat.min_eq_left hzl]
    have hr : ∀ i, i < n0 → 0 ≤ zs.getD i 0 ∧ zs.getD i 0 < 18446744073709551616 := fun i hi => by
      have hzi : zs[i]? = some (zs.getD i 0) := by rw [List.getD, List.getElem?_eq_getElem (by omega)]; rfl
      have hw := hwz (zs.getD i 0) (List.mem_of_getElem? hzi)
      have e1 : IntKind.u64.min = 0 := rfl
      have e2 : IntKind.u64.max = 18446744073709551615 := rfl
      have hw' : 0 ≤ zs.getD i 0 ∧ zs.getD i 0 ≤ 18446744073709551615 := by simpa [Lit.wf, e1, e2] using hw
      omega
    have hg : ∀ i, i < n0 → ((zs.take n0).map Int.toNat).getD i 0 = (zs.getD i 0).toNat := fun i hi => by
      have hzi : zs[i]? = some (zs.getD i 0) := by rw [List.getD, List.getElem?_eq_getElem (by omega)]; rfl
      rw [List.getD, List.getElem?_map, List.getElem?_take, if_pos hi, hzi]
      rfl
    refine ⟨(zs.take n0).map Int.toNat, some a, c0, by rw [hlen], by rw [hlen]; exact hl, fun i hi => ?_, ?_⟩
    · rw [hlen] at hi
      rw [hg i hi]
      have h1 := hr i hi
      have : (256 : Nat) ^ 8 = 18446744073709551616 := by decide
      omega
    · intro h0
      rw [hlen] at h0 ⊢
      have hspot : a.spot = none := by
        have h1 := hcell 0 (by omega)
        unfold World.cell? at h1
        split at h1
        · split at h1
          · cases h1
          · rename_i hs
            simpa [Addr.add] using hs
        · cases h1
      obtain ⟨b, o, sp⟩ := a
      simp at hspot
      subst hspot
      refine ⟨b, o, rfl, fun i hi => ?_⟩
      have h1 := hcell i (by omega)
      have ha : (⟨b, o, none⟩ : Addr).add i = ⟨b, o + i, none⟩ := by unfold Addr.add; split <;> simp_all
      rw [ha] at h1
      rw [h1, hg i hi]
      have := hr i hi
      congr 2
      omega
theorem U64At.below {w w' : World} {v : Value} {l : List Nat} (h : U64At w v l) (hb : Below w.heap.size w w') : U64At w' v l := by
  obtain ⟨p, c, hv, hc, hr, hp⟩ := h
  refine ⟨p, c, hv, hc, hr, fun h0 => ?_⟩
  obtain ⟨b, o, h1, h2⟩ := hp h0
  refine ⟨b, o, h1, fun i hi => ?_⟩
  rw [hb.cell (p := ⟨b, o + i, none⟩) (World.block_lt_of_cell? w _ (h2 i hi)), h2 i hi]
/-- l[:m]. -/
theorem run_upto64 (p : Option Addr) (n c m : Nat) (h : m ≤ c) (wx : World) :
    (Instr.slice 47 (.slice p n c) none (some (.int .i64 (m : Int))) none).run Tryd.prog wx = .ok (.slice p m c) wx := by
  have hs : ∀ w, (Go.sizeOf 23).run Tryd.prog w = .ok 1 w := fun w => by kernel_rfl
  have ht' : Tryd.prog.underlying 47 = some (.slice (Tryd.prog.elem 47)) := by simp [Program.elem, Tryd.underlying47]
  have he : Tryd.prog.elem 47 = 23 := by simp [Program.elem, Tryd.underlying47]
  rw [run_slice_h wx 47 p n c ht' .i64 (m : Int) (by omega) (by omega), he, hs]
  show Result.ok (sliced p 0 (m : Int).toNat c 1) wx = _
  unfold sliced
  rw [Nat.zero_mul, addr_zero]
  rfl
theorem U64At.cut {w : World} {v : Value} {l : List Nat} (hv : U64At w v l) (k : Nat) :
    ∃ (p : Option Addr) (n c m : Nat) (l2 : List Nat), v = .slice p n c ∧ min (n : Int) (k : Int) = (m : Int) ∧ m ≤ k ∧ m ≤ n ∧ l2.length = m ∧ (∀ i, i < m → l2.getD i 0 < 256 ^ 8) ∧ U64At w (.slice p m c) l2 ∧
      (∀ wx, (Instr.slice 47 (.slice p n c) none (some (.int .i64 (m : Int))) none).run Tryd.prog wx = .ok (.slice p m c) wx) := by
  obtain ⟨p, c, rfl, hc, hr, hp⟩ := hv
  have hm : min l.length k ≤ l.length := Nat.min_le_left _ _
  have hl : (l.take (min l.length k)).length = min l.length k := by rw [List.length_take]; omega
  have hg : ∀ i, i < min l.length k → (l.take (min l.length k)).getD i 0 = l.getD i 0 := fun i hi => by rw [List.getD, List.getElem?_take, if_pos hi, List.getD]
  refine ⟨p, l.length, c, min l.length k, l.take (min l.length k), rfl, by omega, Nat.min_le_right _ _, hm, hl, fun i hi => by rw [hg i hi]; exact hr i (by omega), ⟨p, c, by rw [hl], by rw [hl]; omega, fun i hi => by rw [hl] at hi; rw [hg i hi]; exact hr i (by omega), fun h0 => ?_⟩, run_upto64 p _ c _ (by omega)⟩
  rw [hl] at h0
  obtain ⟨b, o, hbo, hcell⟩ := hp (by omega)
  refine ⟨b, o, hbo, fun i hi => ?_⟩
  rw [hl] at hi
  rw [hcell i (by omega), hg i hi]
/-- Bytes stay where only another row is written. -/
theorem BytesAt.far {w w' : World} {v : Value} {l : List UInt8} {row : Option Nat} (h : BytesAt w v l) (hg : w.grownBy w' row) (hne : 0 < l.length → v.ownBlock ≠ row) : BytesAt w' v l := by
  obtain ⟨p, c, rfl, hc, hp⟩ := h
  refine ⟨p, c, rfl, hc, fun h0 => ?_⟩
  obtain ⟨b, o, rfl, h2⟩ := hp h0
  refine ⟨b, o, rfl, fun i hi => ?_⟩
  rw [hg.cell_far ⟨b, o + i, none⟩ (World.block_lt_of_cell? w _ (h2 i hi)) (hne h0), h2 i hi]
/-- What Append leaves when it succeeds, with where the new slice lies. -/
theorem own_lt {w : World} {B e : Nat} {v : Value} {n : Nat} {xs : List Value} (h : w.ownsRow B e 1 v n xs) : ∀ g, v.ownBlock = some g → B ≤ g ∧ g < w.heap.size := by
  intro g hg
  rcases h.2 with ⟨rfl, _⟩ | ⟨g', cap, cur, rfl, hb, hh, _⟩
  · cases hg
  · obtain rfl : g' = g := by simpa [Value.ownBlock] using hg
    refine ⟨hb, ?_⟩
    rcases Nat.lt_or_ge g' w.heap.size with h | h
    · exact h
    · rw [Array.getElem?_eq_none h] at hh; cases hh
end Go.Proofs.YtmfdfpebbnagfaaDoor
