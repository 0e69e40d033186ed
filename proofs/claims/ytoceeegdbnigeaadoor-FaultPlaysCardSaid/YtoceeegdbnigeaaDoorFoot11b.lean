/-
  Pairs of timers, the program's and the reference's, by their footprints.
  Conditions: none.
-/
import Derived.Test.YtoceeegdbnigeaaDoorFoot11
import Derived.Test.YtoceeegdbnigeaaDoorRTim11b
import Derived.Lib.SliceRun
set_option linter.unusedVariables false
namespace Go.Proofs.YtoceeegdbnigeaaDoor
open Go Go.RowKit

/-- The reference's timer at B, by its footprint F. -/
def RTF (w : World) (F : Nat → Prop) (B : Nat) (R : Int) (d : Bool) (K : List Int) : Prop :=
  F B ∧ 0 ≤ R ∧ R ≤ 1000000 ∧ K.length ≤ 34 ∧ ∃ v, RAt w B true R d v ∧ IntsAt w v K ∧ LiesIn F v ∧ LiesIn (fun k => k ≠ B) v
theorem RTF.same {w w' : World} {F : Nat → Prop} {B : Nat} {R : Int} {d : Bool} {K : List Int} (h : RTF w F B R d K) (hb : ∀ k, k < w.heap.size → F k → w'.heap[k]? = w.heap[k]?) (hF : ∀ k, F k → k < w.heap.size) : RTF w' F B R d K := by
  obtain ⟨hB, h1, h2, h3, v, h4, h5, h6, h7⟩ := h
  exact ⟨hB, h1, h2, h3, v, h4.block (hb B (hF B hB) hB), ints_same h5 fun p n c e => hb _ (hF _ (h6 p n c e)) (h6 p n c e), h6, h7⟩
theorem RTF.more {w : World} {F G : Nat → Prop} {B : Nat} {R : Int} {d : Bool} {K : List Int} (h : RTF w F B R d K) (hg : ∀ k, F k → G k) : RTF w G B R d K := by
  obtain ⟨hB, h1, h2, h3, v, h4, h5, h6, h7⟩ := h
  exact ⟨hg _ hB, h1, h2, h3, v, h4, h5, fun p n c e => hg _ (h6 p n c e), h7⟩
theorem ints_slice {w : World} {v : Value} {K : List Int} (h : IntsAt w v K) : ∃ p n c, v = .slice p n c := by
  obtain ⟨p, c, hv, _⟩ := h
  exact ⟨p, _, c, hv⟩
theorem lies_nil (F : Nat → Prop) (n c : Nat) : LiesIn F (.slice none n c) := by
  intro p n c e
  cases e
/-- The ticks left behind one more. -/
def tickR (R : Int) : Int := if 1 ≤ R then R - 1 else R
theorem rtick_F (B : Nat) (F : Nat → Prop) (R : Int) (d : Bool) (K : List Int) (w : World) (h : RTF w F B R d K) :
    Calls Tryd.prog 33 #[.pointer (some ⟨B, 0, none⟩)] w fun e w' => e = .returned (.bool (decide (R = 1))) ∧ RTF w' F B (tickR R) d K ∧ OnlyIn F w w' := by
  obtain ⟨hB, h1, h2, h3, v, h4, h5, h6, h7⟩ := h
  unfold tickR
  by_cases hR : 1 ≤ R
  · rw [if_pos hR]
    refine (rtick_some B R d v w h4 hR h2).mono ?_
    rintro e w' ⟨rfl, rfl⟩
    exact ⟨rfl, ⟨hB, by omega, by omega, h3, v, h4.set1 _, set_off h5 h7, h6, h7⟩, (OnlyIn.refl _ _).set B hB 1 _⟩
  · obtain rfl : R = 0 := by omega
    rw [if_neg hR]
    refine (rtick_zero B d v w h4).mono ?_
    rintro e w' ⟨rfl, rfl⟩
    exact ⟨by rw [decide_eq_false (by decide)], ⟨hB, h1, h2, h3, v, h4, h5, h6, h7⟩, OnlyIn.refl _ _⟩
theorem rarm_F (B : Nat) (F : Nat → Prop) (R : Int) (d0 : Bool) (K0 : List Int) (A : Int) (d : Bool) (v : Value) (K : List Int) (w : World) (h : RTF w F B R d0 K0) (hF : ∀ k, F k → k < w.heap.size) (hv : IntsAt w v K) (hl : K.length ≤ 1099511627776) :
    Calls Tryd.prog 34 #[.pointer (some ⟨B, 0, none⟩), planV A d v] w fun e w' => e = .returned (.int .i64 (planE A K)) ∧ OnlyIn F w w' ∧ RTF w' (More F w w') B (armR A K R) (armD A d K d0) (armK A K K0) := by
  obtain ⟨hB, h1, h2, h3, v0, h4, h5, h6, h7⟩ := h
  unfold armR armD armK planE
  by_cases hp : planOK A K = true
  · obtain ⟨g0, g1, _, g3, _⟩ := planOK_parts hp
    rw [if_pos hp, if_pos hp, if_pos hp, if_pos hp]
    refine (rarm_good B R d0 v0 A d v K w h4 (ints_slice h5) hv hp).mono ?_
    rintro e w' ⟨rfl, hk, v', ha, hn⟩
    have hl := new_lies hn
    have hB2 := hF B hB
    exact ⟨rfl, OnlyIn.of_kept hk hB, Or.inl hB, g0, g1, g3, v', ha, IntsNew.at hn, fun p n c e => Or.inr (hl p n c e), fun p n c e => by have := (hl p n c e).1; omega⟩
  · rw [if_neg hp, if_neg hp, if_neg hp, if_neg hp]
    have hp2 : planOK A K = false := by simpa using hp
    refine (rarm_bad B R d0 v0 A d v K w h4 hv hl hp2).mono ?_
    rintro e w' ⟨rfl, hb⟩
    have hh : RTF w F B R d0 K0 := ⟨hB, h1, h2, h3, v0, h4, h5, h6, h7⟩
    exact ⟨rfl, OnlyIn.of_below hb, (hh.same (fun k hk _ => hb.block k hk) hF).more fun k hk => Or.inl hk⟩
theorem rdisarm_F (B : Nat) (F : Nat → Prop) (R : Int) (d : Bool) (K : List Int) (w : World) (h : RTF w F B R d K) :
    Calls Tryd.prog 36 #[.pointer (some ⟨B, 0, none⟩)] w fun e w' => e = .returned (.tuple #[]) ∧ RTF w' F B 0 false [] ∧ OnlyIn F w w' := by
  obtain ⟨hB, h1, h2, h3, v, h4, h5, h6, h7⟩ := h
  refine (rdisarm_any B R d v w h4 (ints_slice h5)).mono ?_
  rintro e w' ⟨rfl, rfl⟩
  exact ⟨rfl, ⟨hB, Int.le_refl _, by decide, Nat.zero_le _, _, ((h4.set1 0).set2 false).set3 _, IntsAt.nil _ _ _, lies_nil _ _ _, lies_nil _ _ _⟩, (((OnlyIn.refl _ _).set B hB 1 _).set B hB 2 _).set B hB 3 _⟩
theorem rcopy_F (B : Nat) (F : Nat → Prop) (R : Int) (d : Bool) (K : List Int) (w : World) (h : RTF w F B R d K) :
    Calls Tryd.prog 38 #[.pointer (some ⟨B, 0, none⟩)] w fun e w' => ∃ B', e = .returned (.pointer (some ⟨B', 0, none⟩)) ∧ Below w.heap.size w w' ∧ RTF w' (fun k => w.heap.size ≤ k ∧ k < w'.heap.size) B' R d K := by
  obtain ⟨hB, h1, h2, h3, v, h4, h5, h6, h7⟩ := h
  refine (rcopy_any B R d v K w h4 h5 (by omega)).mono ?_
  rintro e w' ⟨B', v', rfl, hB', hb, ha, hn, ho⟩
  exact ⟨B', rfl, hb, ⟨hB', ha.lt⟩, h1, h2, h3, v', ha, IntsNew.at hn, new_lies hn, fun p n c e e2 => ho (by rw [e]; exact congrArg some e2)⟩
/-- A timer of the reference that is nil, or the one at B. -/
def RTN (w : World) (F : Nat → Prop) (p : Option Addr) (R : Int) (d : Bool) (K : List Int) : Prop := (p = none ∧ R = 0) ∨ ∃ B, p = some ⟨B, 0, none⟩ ∧ RTF w F B R d K
theorem rplan_N (p : Option Addr) (F : Nat → Prop) (R : Int) (d : Bool) (K : List Int) (w : World) (h : RTN w F p R d K) :
    Calls Tryd.prog 39 #[.pointer p] w fun e w' => ∃ q c, e = .returned (.tuple #[planV (plA R) (plD R d) (.slice q (plK R K).length c), .bool (decide (1 ≤ R))]) ∧ IntsNew w.heap.size w' (.slice q (plK R K).length c) (plK R K) ∧ Below w.heap.size w w' := by
  unfold plA plD plK
  rcases h with ⟨rfl, rfl⟩ | ⟨B, rfl, hB, h1, h2, h3, v, h4, h5, h6, h7⟩
  · rw [if_neg (by decide), if_neg (by decide), if_neg (by decide)]
    refine (rplan_nil w).mono ?_
    rintro e w' ⟨rfl, hb⟩
    exact ⟨none, 0, rfl, IntsNew.nil _ _, hb⟩
  · by_cases hR : 1 ≤ R
    · rw [if_pos hR, if_pos hR, if_pos hR, decide_eq_true hR]
      refine (rplan_some B R d v K w h4 (by omega) h5 (by omega)).mono ?_
      rintro e w' ⟨v', rfl, hn, hb⟩
      obtain ⟨p, c, rfl⟩ := ownsRow_slice hn
      exact ⟨p, c, rfl, hn, hb⟩
    · obtain rfl : R = 0 := by omega
      rw [if_neg (by omega), if_neg (by omega), if_neg (by omega), decide_eq_false (by omega)]
      refine (rplan_zero B d v w h4).mono ?_
      rintro e w' ⟨rfl, hb⟩
      exact ⟨none, 0, rfl, IntsNew.nil _ _, hb⟩
theorem OnlyIn.cells {S : Nat → Prop} {w0 : World} {b : Nat} (hb : S b) : ∀ (vs : List Value) (o : Nat) (w : World), OnlyIn S w0 w → OnlyIn S w0 (w.setCells b o vs)
  | [], _, _, h => h
  | v :: r, o, w, h => OnlyIn.cells hb r (o + 1) _ (h.set b hb o v)
/-- clear of a slice of numbers that was made behind base. -/
theorem clear_new (base : Nat) (v : Value) (K : List Int) (w : World) (h : IntsNew base w v K) :
    ∃ w', (∀ ty, (Builtin.clear_ #[22] ty #[v]).run Tryd.prog w = .ok (.tuple #[]) w') ∧ OnlyIn (fun k => v.ownBlock = some k) w w' := by
  obtain ⟨i0, hi, hz0, hz1, hz2⟩ := info_parts infoInt
  have hz : ∀ w, (zeroValue 3).run Tryd.prog w = .ok (.int .i64 0) w := fun w => by
    simp [zeroValue, typeInfo, hi, hz0]
  rcases h.2 with ⟨rfl, h0⟩ | ⟨g, cap, cur, rfl, hg, hh, hn, hm, hs, ht⟩
  · exact ⟨w, fun ty => by simp [Builtin.clear_, run_underlying Tryd.underlying22], OnlyIn.refl _ _⟩
  · by_cases h0 : 0 < K.length
    · refine ⟨w.setCells g 0 (List.replicate K.length (.int .i64 0)), fun ty => ?_, OnlyIn.cells (S := fun k => (Value.slice (some ⟨g, 0, none⟩) K.length cap).ownBlock = some k) rfl _ _ _ (OnlyIn.refl _ _)⟩
      refine Lib.run_clear_slice w 22 3 ty (.int .i64 0) Tryd.underlying22 hz rfl rfl g 0 K.length cap h0 (fun j hj => ?_) (fun j hj => ?_)
      · rw [Nat.zero_add, Lib.cell_of_heap hh, Array.getElem?_eq_getElem (by omega)]
        rfl
      · exact Lib.frozen_of_heap hh _
    · have hk : K.length = 0 := by omega
      rw [hk]
      exact ⟨w, fun ty => by simp [Builtin.clear_, run_underlying Tryd.underlying22], OnlyIn.refl _ _⟩
end Go.Proofs.YtoceeegdbnigeaaDoor
