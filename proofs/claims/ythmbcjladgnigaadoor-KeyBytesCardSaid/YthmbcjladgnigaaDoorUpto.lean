/-
  b[:m] of a slice of bytes.
  Conditions: none.
-/
import Derived.Test.YthmbcjladgnigaaDoorProg
import Derived.Test.YthmbcjladgnigaaDoorPlain
import Derived.WalkLawsBesides
import Derived.WalkSpells
set_option linter.unusedVariables false
namespace Go.Proofs.YthmbcjladgnigaaDoor
open Go Go.RowKit

theorem addr_zero (p : Option Addr) (c : Nat) : (if c = 0 then p else p.map (·.add 0)) = p := by
  split
  · rfl
  · cases p with
    | none => rfl
    | some a =>
      obtain ⟨b, o, sp⟩ := a
      show some (Addr.add _ 0) = _
      unfold Addr.add
      split <;> simp_all
/-- b[:m]. -/
theorem run_upto (p : Option Addr) (n c m : Nat) (h : m ≤ c) (wx : World) :
    (Instr.slice 33 (.slice p n c) none (some (.int .i64 (m : Int))) none).run Tryd.prog wx = .ok (.slice p m c) wx := by
  have hs : ∀ w, (Go.sizeOf 5).run Tryd.prog w = .ok 1 w := fun w => by kernel_rfl
  have ht' : Tryd.prog.underlying 33 = some (.slice (Tryd.prog.elem 33)) := by simp [Program.elem, Tryd.underlying33]
  have he : Tryd.prog.elem 33 = 5 := by simp [Program.elem, Tryd.underlying33]
  rw [run_slice_h wx 33 p n c ht' .i64 (m : Int) (by omega) (by omega), he, hs]
  show Result.ok (sliced p 0 (m : Int).toNat c 1) wx = _
  unfold sliced
  rw [Nat.zero_mul, addr_zero]
  rfl
/-- b[:min(len(b), k)]. -/
theorem cut_bytes {w : World} {v : Value} {l : List UInt8} (hv : BytesAt w v l) (k : Nat) :
    ∃ (p : Option Addr) (n c m : Nat) (l2 : List UInt8), v = .slice p n c ∧ n = l.length ∧ min (n : Int) (k : Int) = (m : Int) ∧ m ≤ k ∧ m ≤ n ∧ l2 = l.take m ∧ l2.length = m ∧ BytesAt w (.slice p m c) l2 ∧
      (∀ wx, (Instr.slice 33 (.slice p n c) none (some (.int .i64 (m : Int))) none).run Tryd.prog wx = .ok (.slice p m c) wx) := by
  obtain ⟨p, c, rfl, hc, hp⟩ := hv
  have hm : min l.length k ≤ l.length := Nat.min_le_left _ _
  have hl : (l.take (min l.length k)).length = min l.length k := by rw [List.length_take]; omega
  refine ⟨p, l.length, c, min l.length k, l.take (min l.length k), rfl, rfl, by omega, Nat.min_le_right _ _, hm, rfl, hl, ⟨p, c, by rw [hl], by rw [hl]; omega, fun h0 => ?_⟩, run_upto p _ c _ (by omega)⟩
  rw [hl] at h0
  obtain ⟨b, o, hbo, hcell⟩ := hp (by omega)
  refine ⟨b, o, hbo, fun i hi => ?_⟩
  rw [hl] at hi
  rw [hcell i (by omega)]
  have : (l.take (min l.length k)).getD i 0 = l.getD i 0 := by rw [List.getD, List.getElem?_take, if_pos hi, List.getD]
  rw [this]

theorem BytesAt.upto {w : World} {p : Option Addr} {n c m : Nat} {l : List UInt8} (h : BytesAt w (.slice p n c) l) (hm : m ≤ n) : BytesAt w (.slice p m c) (l.take m) := by
  obtain ⟨p', c', he, hc, hp⟩ := h
  obtain ⟨rfl, rfl, rfl⟩ : p = p' ∧ n = l.length ∧ c = c' := by cases he; exact ⟨rfl, rfl, rfl⟩
  have hl : (l.take m).length = m := by rw [List.length_take]; omega
  refine ⟨p, c, by rw [hl], by rw [hl]; omega, fun h0 => ?_⟩
  rw [hl] at h0
  obtain ⟨b, o, hbo, hcell⟩ := hp (by omega)
  refine ⟨b, o, hbo, fun i hi => ?_⟩
  rw [hl] at hi
  rw [hcell i (by omega)]
  have : (l.take m).getD i 0 = l.getD i 0 := by rw [List.getD, List.getElem?_take, if_pos hi, List.getD]
  rw [this]
end Go.Proofs.YthmbcjladgnigaaDoor
