/-
  Arguments that are configurations, or arrays of seven numbers: what they are as values.
  Conditions: none.
-/
import Derived.Test.YtllgnogiicdhfaaDoorCfg1
import Derived.OpenShut
import Derived.ChangeSame
import Derived.WideShapes
import Derived.Carry
import Derived.ChangeAt
set_option linter.unusedVariables false
namespace Go.Proofs.YtllgnogiicdhfaaDoor
open Go Go.RowKit Go.ChangeShapes Go.WideShapes Go.ChangeAt

theorem cellsInt : Tryd.prog.cellsOf 3 = 1 := by kernel_rfl
theorem cellsU32 : Tryd.prog.cellsOf 35 = 1 := by kernel_rfl
theorem cellsCfg : Tryd.prog.cellsOf 23 = 7 := by kernel_rfl
theorem cellsArr7 : Tryd.prog.cellsOf 36 = 7 := by kernel_rfl
theorem array7 {α : Type} {cs : Array α} (h : cs.size = 7) : ∃ c0 c1 c2 c3 c4 c5 c6, cs = #[c0, c1, c2, c3, c4, c5, c6] := by
  obtain ⟨l⟩ := cs
  match l, h with
  | [c0, c1, c2, c3, c4, c5, c6], _ => exact ⟨c0, c1, c2, c3, c4, c5, c6, rfl⟩
set_option maxRecDepth 100000 in
theorem open_cfg {H : Type} {enc : TypeId × Value → H} {W : World} {b0 : Nat} {v : Value} {d : DataW H} {ps : List MemPlace} (h : DataW.Trod enc Tryd.prog W 0 (fun _ => true) true 23 v d ps)
    (hv : Value.okWide Tryd.prog W .any b0 23 v) : ∃ S Z R W' K V P, v = cfgV S Z R W' K V P := by
  obtain ⟨cs, rfl, hsz⟩ := okWide_struct Tryd.underlying23 hv
  obtain ⟨c0, c1, c2, c3, c4, c5, c6, rfl⟩ := array7 (hsz.trans cellsCfg)
  obtain ⟨fuel, hf⟩ := h
  obtain ⟨xs, n, _, _, _, hlen, hfld⟩ := DataW.trod_struct Tryd.underlying23 hf
  have one : ∀ (i : Nat) (c : Value) (f : Field), DataW.trod enc Tryd.prog W 0 (fun _ => true) true n f.type (((Value.agg #[c0, c1, c2, c3, c4, c5, c6]).cells.toList.drop f.offset).take (Tryd.prog.cellsOf f.type)) = xs[i]? →
      f.type = 3 → (([c0, c1, c2, c3, c4, c5, c6] : List Value).drop f.offset).take 1 = [c] → i < 7 → ∃ x, c = .int .i64 x := by
    intro i c f h1 ht hd hlt
    rw [ht, cellsInt] at h1
    have h2 : xs[i]? = some (xs[i]'(by rw [hlen]; exact hlt)) := List.getElem?_eq_getElem _
    rw [h2] at h1
    have h3 : ((Value.agg #[c0, c1, c2, c3, c4, c5, c6]).cells.toList.drop f.offset).take 1 = [c] := hd
    rw [h3] at h1
    obtain ⟨x, hx, _⟩ := DataW.trod_int Tryd.underlying3 h1
    exact ⟨x, by injection hx⟩
  obtain ⟨x0, rfl⟩ := one 0 c0 _ (hfld 0 _ rfl) rfl rfl (by decide)
  obtain ⟨x1, rfl⟩ := one 1 c1 _ (hfld 1 _ rfl) rfl rfl (by decide)
  obtain ⟨x2, rfl⟩ := one 2 c2 _ (hfld 2 _ rfl) rfl rfl (by decide)
  obtain ⟨x3, rfl⟩ := one 3 c3 _ (hfld 3 _ rfl) rfl rfl (by decide)
  obtain ⟨x4, rfl⟩ := one 4 c4 _ (hfld 4 _ rfl) rfl rfl (by decide)
  obtain ⟨x5, rfl⟩ := one 5 c5 _ (hfld 5 _ rfl) rfl rfl (by decide)
  obtain ⟨x6, rfl⟩ := one 6 c6 _ (hfld 6 _ rfl) rfl rfl (by decide)
  exact ⟨x0, x1, x2, x3, x4, x5, x6, rfl⟩
/-- Seven numbers as an array. -/
abbrev arrV (n : Nat → Int) : Value := .agg #[.int .u32 (n 0), .int .u32 (n 1), .int .u32 (n 2), .int .u32 (n 3), .int .u32 (n 4), .int .u32 (n 5), .int .u32 (n 6)]
set_option maxRecDepth 100000 in
theorem open_arr7 {H : Type} {enc : TypeId × Value → H} {W : World} {b0 : Nat} {v : Value} {d : DataW H} {ps : List MemPlace} (h : DataW.Trod enc Tryd.prog W 0 (fun _ => true) true 36 v d ps)
    (hv : Value.okWide Tryd.prog W .any b0 36 v) : ∃ n : Nat → Int, v = arrV n ∧ ∀ i, i < 7 → 0 ≤ n i ∧ n i < 4294967296 := by
  have hv2 : ∃ cs, v = .agg cs ∧ cs.size = Tryd.prog.cellsOf 36 := by
    simp only [Value.okWide, Tryd.underlying36] at hv
    obtain ⟨cs, h1, h2, _⟩ := hv
    exact ⟨cs, h1, h2⟩
  obtain ⟨cs, rfl, hsz⟩ := hv2
  obtain ⟨c0, c1, c2, c3, c4, c5, c6, rfl⟩ := array7 (hsz.trans cellsArr7)
  obtain ⟨fuel, hf⟩ := h
  obtain ⟨xs, n, _, _, _, hlen, hfld⟩ := DataW.trod_array Tryd.underlying36 hf
  have one : ∀ (i : Nat) (c : Value), (([c0, c1, c2, c3, c4, c5, c6] : List Value).drop i).take 1 = [c] → i < 7 → ∃ x, c = .int .u32 x ∧ 0 ≤ x ∧ x < 4294967296 := by
    intro i c hd hlt
    have h1 := hfld i hlt
    rw [cellsU32, Nat.mul_one] at h1
    have h2 : xs[i]? = some (xs[i]'(by rw [hlen]; exact hlt)) := List.getElem?_eq_getElem _
    rw [h2] at h1
    have h3 : ((Value.agg #[c0, c1, c2, c3, c4, c5, c6]).cells.toList.drop i).take 1 = [c] := hd
    rw [h3] at h1
    obtain ⟨x, hx, _, hw⟩ := DataW.trod_int Tryd.underlying35 h1
    have e1 : IntKind.u32.min = 0 := rfl
    have e2 : IntKind.u32.max = 4294967295 := rfl
    have hr : 0 ≤ x ∧ x ≤ 4294967295 := by simpa [Lit.wf, e1, e2] using hw
    exact ⟨x, by injection hx, by omega, by omega⟩
  obtain ⟨x0, rfl, b0⟩ := one 0 c0 rfl (by decide)
  obtain ⟨x1, rfl, b1⟩ := one 1 c1 rfl (by decide)
  obtain ⟨x2, rfl, b2⟩ := one 2 c2 rfl (by decide)
  obtain ⟨x3, rfl, b3⟩ := one 3 c3 rfl (by decide)
  obtain ⟨x4, rfl, b4⟩ := one 4 c4 rfl (by decide)
  obtain ⟨x5, rfl, b5⟩ := one 5 c5 rfl (by decide)
  obtain ⟨x6, rfl, b6⟩ := one 6 c6 rfl (by decide)
  refine ⟨fun i => [x0, x1, x2, x3, x4, x5, x6].getD i 0, rfl, fun i hi => ?_⟩
  match i, hi with
  | 0, _ => exact b0
  | 1, _ => exact b1
  | 2, _ => exact b2
  | 3, _ => exact b3
  | 4, _ => exact b4
  | 5, _ => exact b5
  | 6, _ => exact b6
end Go.Proofs.YtllgnogiicdhfaaDoor
