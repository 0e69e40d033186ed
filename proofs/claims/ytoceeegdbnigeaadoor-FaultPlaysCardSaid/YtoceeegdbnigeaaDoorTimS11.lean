/-
  Timers: the state of one, and what each call makes of it.
  Conditions: none.
-/
import Derived.Test.YtoceeegdbnigeaaDoorTim11
import Derived.Test.YtoceeegdbnigeaaDoorWorks11
set_option linter.unusedVariables false
namespace Go.Proofs.YtoceeegdbnigeaaDoor
open Go Go.RowKit

/-- The timer at B has R ticks left of the plan (d, K); none if R is not positive. -/
def TimS (w : World) (B : Nat) (R : Int) (d : Bool) (K : List Int) : Prop :=
  (1 ≤ R ∧ R ≤ 1000000 ∧ ∃ C v, B < C ∧ TimAt w B true (some ⟨C, 0, none⟩) ∧ PlanAt w C R d v ∧ IntsNew (B + 1) w v K ∧ v.ownBlock ≠ some C) ∨ (R ≤ 0 ∧ TimAt w B true none)
theorem TimS.below {w w' : World} {B : Nat} {R : Int} {d : Bool} {K : List Int} (h : TimS w B R d K) (hb : Below w.heap.size w w') : TimS w' B R d K := by
  rcases h with ⟨h1, h2, C, v, h3, h4, h5, h6, h7⟩ | ⟨h1, h2⟩
  · exact Or.inl ⟨h1, h2, C, v, h3, h4.below hb, h5.below hb, h6.below hb, h7⟩
  · exact Or.inr ⟨h1, h2.below hb⟩
theorem TimS.lt {w : World} {B : Nat} {R : Int} {d : Bool} {K : List Int} (h : TimS w B R d K) : B < w.heap.size := by
  rcases h with ⟨_, _, C, v, _, h4, _⟩ | ⟨_, h2⟩
  · exact h4.lt
  · exact h2.lt
theorem TimS.at {w : World} {B : Nat} {R : Int} {d : Bool} {K : List Int} (h : TimS w B R d K) : ∃ p, TimAt w B true p := by
  rcases h with ⟨_, _, C, v, _, h4, _⟩ | ⟨_, h2⟩
  · exact ⟨_, h4⟩
  · exact ⟨_, h2⟩
theorem ints_off {w : World} {base C j : Nat} {v x : Value} {K : List Int} (h : IntsNew base w v K) (hn : v.ownBlock ≠ some C) : IntsNew base (w.setCell ⟨C, j, none⟩ x) v K :=
  World.ownsRow.kept h (grownBy_set w ⟨C, j, none⟩ x) (Or.inr hn)
theorem tick_S (B : Nat) (R : Int) (d : Bool) (K : List Int) (w : World) (h : TimS w B R d K) :
    Calls Tryd.prog 29 #[.pointer (some ⟨B, 0, none⟩)] w fun e w' => e = .returned (.bool (decide (R = 1))) ∧ TimS w' B (R - 1) d K ∧ Below B w w' := by
  rcases h with ⟨h1, h2, C, v, h3, h4, h5, h6, h7⟩ | ⟨h1, h2⟩
  · have hBv : v.ownBlock ≠ some B := fun e => by have := (World.ownsRow.lt h6 _ e).1; omega
    by_cases hR : R = 1
    · subst hR
      refine (tick_last B C true d v w h4 h5 (by omega)).mono ?_
      rintro e w' ⟨rfl, rfl⟩
      exact ⟨rfl, Or.inr ⟨by decide, (h4.other (by omega) _).set none⟩, below_set (below_set (Below.refl _ _) C (by omega) 0 _) B (Nat.le_refl _) 1 _⟩
    · refine (tick_go B C true R d v w h4 h5 (by omega) (by omega) h2).mono ?_
      rintro e w' ⟨rfl, rfl⟩
      exact ⟨by rw [decide_eq_false hR], Or.inl ⟨by omega, by omega, C, v, h3, h4.other (by omega) _, h5.set0 _, ints_off h6 h7, h7⟩, below_set (Below.refl _ _) C (by omega) 0 _⟩
  · refine (tick_no B true w h2).mono ?_
    rintro e w' ⟨rfl, rfl⟩
    exact ⟨by rw [decide_eq_false (by omega)], Or.inr ⟨by omega, h2⟩, Below.refl _ _⟩
theorem plan_S1 (B : Nat) (R : Int) (d : Bool) (K : List Int) (w : World) (h : TimS w B R d K) (hR : 1 ≤ R) (hl : K.length ≤ 34) :
    Calls Tryd.prog 27 #[.pointer (some ⟨B, 0, none⟩)] w fun e w' => ∃ p c, e = .returned (.tuple #[planV R d (.slice p K.length c), .bool true]) ∧ IntsNew w.heap.size w' (.slice p K.length c) K ∧ Below w.heap.size w w' := by
  rcases h with ⟨h1, h2, C, v, h3, h4, h5, h6, h7⟩ | ⟨h1, h2⟩
  · refine (plan_some B C true R d v K w h4 h5 (IntsNew.at h6) (by omega)).mono ?_
    rintro e w' ⟨v', rfl, hn, hb⟩
    obtain ⟨p, c, rfl⟩ := ownsRow_slice hn
    exact ⟨p, c, rfl, hn, hb⟩
  · omega
theorem plan_S0 (B : Nat) (R : Int) (d : Bool) (K : List Int) (w : World) (h : TimS w B R d K) (hR : R ≤ 0) :
    Calls Tryd.prog 27 #[.pointer (some ⟨B, 0, none⟩)] w fun e w' => e = .returned (.tuple #[planV 0 false (.slice none 0 0), .bool false]) ∧ Below w.heap.size w w' := by
  rcases h with ⟨h1, h2, C, v, h3, h4, h5, h6, h7⟩ | ⟨h1, h2⟩
  · omega
  · exact plan_no B true w h2
theorem arm_S (B : Nat) (p : Option Addr) (A : Int) (d : Bool) (v : Value) (K : List Int) (w : World) (h : TimAt w B true p) (hv : IntsAt w v K) (hp : planOK A K = true) :
    Calls Tryd.prog 26 #[.pointer (some ⟨B, 0, none⟩), planV A d v] w fun e w' => e = .returned (.int .i64 0) ∧ KeptBut B w w' ∧ TimS w' B A d K := by
  obtain ⟨h0, h1, _⟩ := planOK_parts hp
  have hlt := h.lt
  by_cases hA : 1 ≤ A
  · refine (arm_some B p A d v K w h hv hA hp).mono ?_
    rintro e w' ⟨rfl, hk, ht, v', hp', hn⟩
    exact ⟨rfl, hk, Or.inl ⟨hA, h1, w.heap.size, v', hlt, ht, hp', hn.base (by omega), fun e => by have := (World.ownsRow.lt hn _ e).1; omega⟩⟩
  · obtain rfl : A = 0 := by omega
    refine (arm_zero B p d v K w h hv hp).mono ?_
    rintro e w' ⟨rfl, hk, ht⟩
    exact ⟨rfl, hk, Or.inr ⟨Int.le_refl _, ht⟩⟩
end Go.Proofs.YtoceeegdbnigeaaDoor
