/-
  Arguments that are plans, or slices of numbers: what they are as values.
  Conditions: none.
-/
import Derived.Test.YtoceeegdbnigeaaDoorFlt1
import Derived.OpenShut
import Derived.ChangeSame
import Derived.WideShapes
import Derived.Carry
import Derived.ChangeAt
set_option linter.unusedVariables false
namespace Go.Proofs.YtoceeegdbnigeaaDoor
open Go Go.RowKit Go.ChangeShapes Go.WideShapes Go.ChangeAt

theorem cellsInt : Tryd.prog.cellsOf 3 = 1 := by kernel_rfl
theorem cellsU16 : Tryd.prog.cellsOf 41 = 1 := by kernel_rfl
theorem cellsBool : Tryd.prog.cellsOf 4 = 1 := by kernel_rfl
theorem cellsInts : Tryd.prog.cellsOf 22 = 1 := by kernel_rfl
theorem cellsPlan : Tryd.prog.cellsOf 24 = 3 := by kernel_rfl
theorem spot_none {W : World} {a : Addr} {v : Value} (h1 : W.cell? (a.add 0) = some v) : a.spot = none := by
  unfold World.cell? at h1
  split at h1
  · split at h1
    · cases h1
    · rename_i hs
      simpa [Addr.add] using hs
  · cases h1
theorem ints_of_trod {H : Type} {enc : TypeId × Value → H} {W : World} {base : Nat} {sp : Nat → Bool} {held : Bool} {fuel : Nat} {cs : List Value} {x : DataW H × List MemPlace} (h : DataW.trod enc Tryd.prog W base sp held fuel 22 cs = some x) : ∃ v L, cs = [v] ∧ IntsAt W v L := by
  rcases open_ints Tryd.underlying22 Tryd.underlying3 cellsInt h with ⟨hcs, hx⟩ | ⟨a, len, cap, zs, hcs, _, hl, hm, hz, hx, hcell, hwz⟩
  · exact ⟨_, [], hcs, IntsAt.nil _ _ _⟩
  · have hzl : len ≤ zs.length := by rw [hz]; split <;> omega
    have ht : (zs.take len).length = len := by rw [List.length_take, Nat.min_eq_left hzl]
    refine ⟨_, zs.take len, hcs, some a, cap, by rw [ht], by rw [ht]; exact hl, fun h0 => ?_⟩
    rw [ht] at h0 ⊢
    have hspot := spot_none (hcell 0 (by omega))
    obtain ⟨b, o, s⟩ := a
    simp at hspot
    subst hspot
    refine ⟨b, o, rfl, fun i hi => ?_⟩
    have h1 := hcell i (by omega)
    have ha : (⟨b, o, none⟩ : Addr).add i = ⟨b, o + i, none⟩ := by unfold Addr.add; split <;> simp_all
    rw [ha] at h1
    rw [h1, List.getD, List.getD, List.getElem?_take, if_pos hi]
set_option maxRecDepth 100000 in
theorem open_plan {H : Type} {enc : TypeId × Value → H} {W : World} {b0 : Nat} {v : Value} {d : DataW H} {ps : List MemPlace} (h : DataW.Trod enc Tryd.prog W 0 (fun _ => true) true 24 v d ps)
    (hv : Value.okWide Tryd.prog W .any b0 24 v) : ∃ A b u L, v = planV A b u ∧ IntsAt W u L := by
  obtain ⟨cs, rfl, hsz⟩ := okWide_struct Tryd.underlying24 hv
  have hc3 : ∃ c0 c1 c2, cs = #[c0, c1, c2] := by
    obtain ⟨l⟩ := cs
    have hs := hsz.trans cellsPlan
    match l, hs with
    | [c0, c1, c2], _ => exact ⟨c0, c1, c2, rfl⟩
  obtain ⟨c0, c1, c2, rfl⟩ := hc3
  obtain ⟨fuel, hf⟩ := h
  obtain ⟨xs, n, _, _, _, hlen, hfld⟩ := DataW.trod_struct Tryd.underlying24 hf
  have hx : ∀ i, i < 3 → ∃ y, xs[i]? = some y := fun i hi => ⟨xs[i]'(by rw [hlen]; exact hi), List.getElem?_eq_getElem _⟩
  obtain ⟨y0, h0⟩ := hx 0 (by decide)
  obtain ⟨y1, h1⟩ := hx 1 (by decide)
  obtain ⟨y2, h2⟩ := hx 2 (by decide)
  have g0 := hfld 0 _ rfl
  have g1 := hfld 1 _ rfl
  have g2 := hfld 2 _ rfl
  rw [h0] at g0
  rw [h1] at g1
  rw [h2] at g2
  have one : ∀ (f : Field) (T : TypeId) (c : Value) (y : DataW H × List MemPlace), DataW.trod enc Tryd.prog W 0 (fun _ => true) true n f.type (((Value.agg #[c0, c1, c2]).cells.toList.drop f.offset).take (Tryd.prog.cellsOf f.type)) = some y →
      f.type = T → Tryd.prog.cellsOf T = 1 → (([c0, c1, c2] : List Value).drop f.offset).take 1 = [c] → DataW.trod enc Tryd.prog W 0 (fun _ => true) true n T [c] = some y := by
    intro f T c y h1 ht hc hd
    rw [ht, hc] at h1
    have h3 : ((Value.agg #[c0, c1, c2]).cells.toList.drop f.offset).take 1 = [c] := hd
    rw [h3] at h1
    exact h1
  have e0 := one _ 3 c0 y0 g0 rfl cellsInt rfl
  have e1 := one _ 4 c1 y1 g1 rfl cellsBool rfl
  have e2 := one _ 22 c2 y2 g2 rfl cellsInts rfl
  obtain ⟨A, hA, _⟩ := DataW.trod_int Tryd.underlying3 e0
  obtain ⟨b, hb, _⟩ := DataW.trod_bool Tryd.underlying4 e1
  obtain ⟨u, L, hu, hi⟩ := ints_of_trod e2
  injection hA with hA
  injection hb with hb
  injection hu with hu
  subst hA hb hu
  exact ⟨A, b, _, L, rfl, hi⟩
end Go.Proofs.YtoceeegdbnigeaaDoor
