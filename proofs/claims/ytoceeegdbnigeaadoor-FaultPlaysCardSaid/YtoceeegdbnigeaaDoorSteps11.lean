/-
  Arguments that are slices of steps: what they are as values.
  Conditions: none.
-/
import Derived.Test.YtoceeegdbnigeaaDoorOpen11
import Derived.Deep.Slices
set_option linter.unusedVariables false
namespace Go.Proofs.YtoceeegdbnigeaaDoor
open Go Go.RowKit Go.ChangeShapes Go.WideShapes Go.ChangeAt

/-- The value v is a slice of n steps. -/
def StepsAt (w : World) (v : Value) (n : Nat) : Prop :=
  ∃ p c, v = .slice p n c ∧ (0 < n → ∃ b o, p = some ⟨b, o, none⟩ ∧ ∀ i : Nat, i < n → ∃ (x A : Int) (d : Bool) (q : Option Addr) (cq : Nat) (K : List Int), 0 ≤ x ∧ x < 256 ∧ w.cell? ⟨b, o + i * 4, none⟩ = some (.int .u8 x) ∧ w.cell? ⟨b, o + i * 4 + 1, none⟩ = some (.int .i64 A) ∧ w.cell? ⟨b, o + i * 4 + 2, none⟩ = some (.bool d) ∧ w.cell? ⟨b, o + i * 4 + 3, none⟩ = some (.slice q K.length cq) ∧ IntsAt w (.slice q K.length cq) K)
theorem cellsStep : Tryd.prog.cellsOf 59 = 4 := by kernel_rfl
theorem cellsByte : Tryd.prog.cellsOf 5 = 1 := by kernel_rfl
section
variable {H : Type} {enc : TypeId × Value → H} {W : World} {base : Nat} {sp : Nat → Bool} {held : Bool}
theorem field_at {n : Nat} {cs ds : List Value} {f : Field} {T : TypeId} {o k : Nat} {y : DataW H × List MemPlace} (h : DataW.trod enc Tryd.prog W base sp held n f.type ((cs.drop f.offset).take (Tryd.prog.cellsOf f.type)) = some y)
    (ht : f.type = T) (ho : f.offset = o) (hc : Tryd.prog.cellsOf T = k) (hd : (cs.drop o).take k = ds) : DataW.trod enc Tryd.prog W base sp held n T ds = some y := by
  subst ht ho
  rw [hc, hd] at h
  exact h
set_option maxRecDepth 100000 in
theorem plan_of_trod {fuel : Nat} {c0 c1 c2 : Value} {x : DataW H × List MemPlace} (hf : DataW.trod enc Tryd.prog W base sp held fuel 24 [c0, c1, c2] = some x) : ∃ A b L q c, c0 = .int .i64 A ∧ c1 = .bool b ∧ c2 = .slice q L.length c ∧ IntsAt W (.slice q L.length c) L := by
  obtain ⟨xs, n, _, _, _, hlen, hfld⟩ := DataW.trod_struct Tryd.underlying24 hf
  have hx : ∀ i, i < 3 → ∃ y, xs[i]? = some y := fun i hi => ⟨xs[i]'(by rw [hlen]; exact hi), List.getElem?_eq_getElem _⟩
  obtain ⟨y0, h0⟩ := hx 0 (by decide)
  obtain ⟨y1, h1⟩ := hx 1 (by decide)
  obtain ⟨y2, h2⟩ := hx 2 (by decide)
  have g0 := hfld 0 _ rfl
  have g1 := hfld 1 _ rfl
  have g2 := hfld 2 _ rfl
  rw [h0] at g0
  rw [h1] at g1
  rw [h2] at g2
  have e0 := field_at g0 (T := 3) rfl (o := 0) rfl cellsInt (ds := [c0]) rfl
  have e1 := field_at g1 (T := 4) rfl (o := 1) rfl cellsBool (ds := [c1]) rfl
  have e2 := field_at g2 (T := 22) rfl (o := 2) rfl cellsInts (ds := [c2]) rfl
  obtain ⟨A, hA, _⟩ := DataW.trod_int Tryd.underlying3 e0
  obtain ⟨b, hb, _⟩ := DataW.trod_bool Tryd.underlying4 e1
  obtain ⟨u, L, hu, hi⟩ := ints_of_trod e2
  injection hA with hA
  injection hb with hb
  injection hu with hu
  subst hA hb hu
  have hi2 := hi
  obtain ⟨p, c, hv, _⟩ := hi2
  subst hv
  exact ⟨A, b, L, p, c, rfl, rfl, rfl, hi⟩
end
set_option maxRecDepth 100000 in
theorem open_steps {H : Type} {enc : TypeId × Value → H} {W : World} {v : Value} {d : DataW H} {ps : List MemPlace} (h : DataW.Trod enc Tryd.prog W 0 (fun _ => true) true 55 v d ps)
    (hv : ∃ a len cap, v = .slice a len cap) : ∃ l, StepsAt W v l := by
  obtain ⟨a0, n0, c0, rfl⟩ := hv
  obtain ⟨fuel, hf⟩ := h
  rcases Go.Deep.open_slice Tryd.underlying55 hf with ⟨hcs, _⟩ | ⟨a, len, cap, m, n, D, Pl, hcs, _, hl, _, hm, _, hx⟩
  · simp [Value.cells] at hcs
    obtain ⟨rfl, rfl, rfl⟩ := hcs
    exact ⟨0, none, 0, rfl, fun h => absurd h (Nat.lt_irrefl 0)⟩
  · simp [Value.cells] at hcs
    obtain ⟨rfl, rfl, rfl⟩ := hcs
    have hnm : n0 ≤ m := by rw [hm]; simp; omega
    refine ⟨n0, some a, c0, rfl, fun h0 => ?_⟩
    have cel : ∀ i, i < n0 → ∃ k0 k1 k2 k3 : Value, (∀ j v, [k0, k1, k2, k3][j]? = some v → W.cell? ((a.add (i * 4)).add j) = some v) ∧ DataW.trod enc Tryd.prog W 0 (fun _ => true) true n 59 [k0, k1, k2, k3] = some (D i, Pl i) := by
      intro i hi
      obtain ⟨cs', h1, h2⟩ := hx i (by omega)
      rw [cellsStep] at h1
      obtain ⟨_, hlen, hcell⟩ := World.cells?_some h1
      match cs', hlen with
      | [k0, k1, k2, k3], _ =>
        refine ⟨k0, k1, k2, k3, fun j v hj => ?_, h2⟩
        have hj4 : j < 4 := by
          by_cases h4 : j < 4
          · exact h4
          · rw [List.getElem?_eq_none (by simp; omega)] at hj
            cases hj
        rw [hcell j hj4, hj]
    have hspot : a.spot = none := by
      obtain ⟨k0, k1, k2, k3, hc, _⟩ := cel 0 h0
      have := hc 0 k0 rfl
      rw [Nat.zero_mul] at this
      exact spot_none (a := a) (by simpa [Addr.add] using this)
    obtain ⟨b, o, s⟩ := a
    simp at hspot
    subst hspot
    refine ⟨b, o, rfl, fun i hi => ?_⟩
    obtain ⟨k0, k1, k2, k3, hc, ht⟩ := cel i hi
    have ha : ∀ j, ((⟨b, o, none⟩ : Addr).add (i * 4)).add j = ⟨b, o + i * 4 + j, none⟩ := fun j => by
      unfold Addr.add
      by_cases h1 : i * 4 = 0 <;> by_cases h2 : j = 0 <;> simp [h1, h2]
    have q0 := hc 0 k0 rfl
    have q1 := hc 1 k1 rfl
    have q2 := hc 2 k2 rfl
    have q3 := hc 3 k3 rfl
    rw [ha] at q0 q1 q2 q3
    obtain ⟨xs, n1, _, _, _, hlen, hfld⟩ := DataW.trod_struct Tryd.underlying59 ht
    have hxx : ∀ i, i < 2 → ∃ y, xs[i]? = some y := fun i hi => ⟨xs[i]'(by rw [hlen]; exact hi), List.getElem?_eq_getElem _⟩
    obtain ⟨y0, h0'⟩ := hxx 0 (by decide)
    obtain ⟨y1, h1'⟩ := hxx 1 (by decide)
    have g0 := hfld 0 _ rfl
    have g1 := hfld 1 _ rfl
    rw [h0'] at g0
    rw [h1'] at g1
    have e0 := field_at g0 (T := 5) rfl (o := 0) rfl cellsByte (ds := [k0]) rfl
    have e1 := field_at g1 (T := 24) rfl (o := 1) rfl cellsPlan (ds := [k1, k2, k3]) rfl
    obtain ⟨x, hx0, hw⟩ := DataW.trod_int Tryd.underlying5 e0
    injection hx0 with hx0
    subst hx0
    obtain ⟨A, d2, L, q, cq, rfl, rfl, rfl, hi2⟩ := plan_of_trod e1
    have hr : 0 ≤ x ∧ x ≤ 255 := by
      have e1 : IntKind.u8.min = 0 := rfl
      have e2 : IntKind.u8.max = 255 := rfl
      simpa [Lit.wf, e1, e2] using hw.2
    exact ⟨x, A, d2, q, cq, L, hr.1, by omega, q0, q1, q2, q3, hi2⟩
end Go.Proofs.YtoceeegdbnigeaaDoor
