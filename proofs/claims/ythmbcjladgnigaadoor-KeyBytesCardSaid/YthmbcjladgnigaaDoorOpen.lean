/-
  An argument of type []byte that is read as data reads as bytes in memory.
  Conditions: none.
-/
import Derived.Test.YthmbcjladgnigaaDoorProg
import Derived.Test.YthmbcjladgnigaaDoorPlain
import Derived.ChangeSlices
import Derived.Carry
import Derived.Deep.DeepHandedRow
set_option linter.unusedVariables false
namespace Go.Proofs.YthmbcjladgnigaaDoor
open Go Go.RowKit Go.ChangeShapes Go.WideShapes Go.ChangeAt

theorem cellsU8 : Tryd.prog.cellsOf 5 = 1 := by kernel_rfl
theorem open_bytes {H : Type} {enc : TypeId × Value → H} {W : World} {v : Value} {d : DataW H} {ps : List MemPlace} (h : DataW.Trod enc Tryd.prog W 0 (fun _ => true) true 33 v d ps)
    (hv : ∃ a len cap, v = .slice a len cap) : ∃ l, BytesAt W v l := by
  obtain ⟨a0, n0, c0, rfl⟩ := hv
  obtain ⟨fuel, hf⟩ := h
  rcases open_ints Tryd.underlying33 Tryd.underlying5 cellsU8 hf with ⟨hcs, hx⟩ | ⟨a, len, cap, zs, hcs, _, hl, hm, hz, hx, hcell, hwz⟩
  · simp [Value.cells] at hcs
    obtain ⟨rfl, rfl, rfl⟩ := hcs
    exact ⟨[], BytesAt.nil _ _ _⟩
  · simp [Value.cells] at hcs
    obtain ⟨rfl, rfl, rfl⟩ := hcs
    have hzl : n0 ≤ zs.length := by rw [hz]; simp; omega
    refine ⟨(zs.take n0).map fun z => UInt8.ofNat z.toNat, some a, c0, ?_, ?_, ?_⟩
    · rw [List.length_map, List.length_take, Nat.min_eq_left hzl]
    · rw [List.length_map, List.length_take, Nat.min_eq_left hzl]; exact hl
    · intro h0
      rw [List.length_map, List.length_take, Nat.min_eq_left hzl] at h0 ⊢
      have hspot : a.spot = none := by
        have h1 := hcell 0 (by omega)
        unfold World.cell? at h1
        split at h1
        · split at h1
          · cases h1
          · rename_i hs
            simpa [Addr.add] using hs
        · cases h1
      obtain ⟨b, o, sp⟩ := a
      simp at hspot
      subst hspot
      refine ⟨b, o, rfl, fun i hi => ?_⟩
      have h1 := hcell i (by omega)
      have ha : (⟨b, o, none⟩ : Addr).add i = ⟨b, o + i, none⟩ := by unfold Addr.add; split <;> simp_all
      rw [ha] at h1
      rw [h1]
      have hzi : zs[i]? = some (zs.getD i 0) := by rw [List.getD, List.getElem?_eq_getElem (by omega)]; rfl
      have hw := hwz (zs.getD i 0) (List.mem_of_getElem? hzi)
      have hr : 0 ≤ zs.getD i 0 ∧ zs.getD i 0 ≤ 255 := by
        have e1 : IntKind.u8.min = 0 := rfl
        have e2 : IntKind.u8.max = 255 := rfl
        simpa [Lit.wf, e1, e2] using hw
      have hg : ((zs.take n0).map fun z => UInt8.ofNat z.toNat).getD i 0 = UInt8.ofNat (zs.getD i 0).toNat := by
        rw [List.getD, List.getElem?_map, List.getElem?_take, if_pos hi, hzi]
        rfl
      rw [hg, UInt8.toNat_ofNat']
      congr 2
      omega
end Go.Proofs.YthmbcjladgnigaaDoor
