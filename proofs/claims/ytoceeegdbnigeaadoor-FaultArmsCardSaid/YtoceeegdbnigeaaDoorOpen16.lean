/-
  Arguments that are slices of numbers of 16 bits: what they are as values.
  Conditions: none.
-/
import Derived.Test.YtoceeegdbnigeaaDoorMade11
import Derived.Test.YtoceeegdbnigeaaDoorOpen11
set_option linter.unusedVariables false
namespace Go.Proofs.YtoceeegdbnigeaaDoor
open Go Go.RowKit Go.ChangeShapes Go.WideShapes Go.ChangeAt

theorem open_u16s {H : Type} {enc : TypeId × Value → H} {W : World} {v : Value} {d : DataW H} {ps : List MemPlace} (h : DataW.Trod enc Tryd.prog W 0 (fun _ => true) true 40 v d ps)
    (hv : ∃ a len cap, v = .slice a len cap) : ∃ l, U16At W v l := by
  obtain ⟨a0, n0, c0, rfl⟩ := hv
  obtain ⟨fuel, hf⟩ := h
  rcases open_ints Tryd.underlying40 Tryd.underlying41 cellsU16 hf with ⟨hcs, hx⟩ | ⟨a, len, cap, zs, hcs, _, hl, hm, hz, hx, hcell, hwz⟩
  · simp [Value.cells] at hcs
    obtain ⟨rfl, rfl, rfl⟩ := hcs
    exact ⟨[], none, 0, rfl, Nat.le_refl _, fun i hi => absurd hi (Nat.not_lt_zero _), fun h => absurd h (Nat.lt_irrefl 0)⟩
  · simp [Value.cells] at hcs
    obtain ⟨rfl, rfl, rfl⟩ := hcs
    have hzl : n0 ≤ zs.length := by rw [hz]; simp; omega
    have hlen : ((zs.take n0).map Int.toNat).length = n0 := by rw [List.length_map, List.length_take, Nat.min_eq_left hzl]
    have hval : ∀ i, i < n0 → 0 ≤ zs.getD i 0 ∧ zs.getD i 0 < 65536 ∧ ((zs.take n0).map Int.toNat).getD i 0 = (zs.getD i 0).toNat := by
      intro i hi
      have hzi : zs[i]? = some (zs.getD i 0) := by rw [List.getD, List.getElem?_eq_getElem (by omega)]; rfl
      have hw := hwz (zs.getD i 0) (List.mem_of_getElem? hzi)
      have hr : 0 ≤ zs.getD i 0 ∧ zs.getD i 0 ≤ 65535 := by
        have e1 : IntKind.u16.min = 0 := rfl
        have e2 : IntKind.u16.max = 65535 := rfl
        simpa [Lit.wf, e1, e2] using hw
      refine ⟨hr.1, by omega, ?_⟩
      rw [List.getD, List.getElem?_map, List.getElem?_take, if_pos hi, hzi]
      rfl
    refine ⟨(zs.take n0).map Int.toNat, some a, c0, by rw [hlen], by rw [hlen]; exact hl, fun i hi => ?_, fun h0 => ?_⟩
    · rw [hlen] at hi
      obtain ⟨h1, h2, h3⟩ := hval i hi
      rw [h3]; omega
    · rw [hlen] at h0 ⊢
      have hspot := spot_none (hcell 0 (by omega))
      obtain ⟨b, o, s⟩ := a
      simp at hspot
      subst hspot
      refine ⟨b, o, rfl, fun i hi => ?_⟩
      have h1 := hcell i (by omega)
      have ha : (⟨b, o, none⟩ : Addr).add i = ⟨b, o + i, none⟩ := by unfold Addr.add; split <;> simp_all
      rw [ha] at h1
      obtain ⟨g1, g2, g3⟩ := hval i hi
      rw [h1, g3, Int.toNat_of_nonneg g1]
end Go.Proofs.YtoceeegdbnigeaaDoor
