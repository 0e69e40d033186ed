/-
  Timers of both kinds by their footprints: the blocks that a state depends on; what each call changes.
  Conditions: none.
-/
import Derived.Test.YtoceeegdbnigeaaDoorTimS11
set_option linter.unusedVariables false
namespace Go.Proofs.YtoceeegdbnigeaaDoor
open Go Go.RowKit

/-- Between two worlds only blocks with S change. -/
structure OnlyIn (S : Nat → Prop) (w w' : World) : Prop where
  os : w'.os = w.os
  tape : w'.tape = w.tape
  output : w'.output = w.output
  size : w.heap.size ≤ w'.heap.size
  block : ∀ k, k < w.heap.size → ¬ S k → w'.heap[k]? = w.heap[k]?
theorem OnlyIn.refl (S : Nat → Prop) (w : World) : OnlyIn S w w := ⟨rfl, rfl, rfl, Nat.le_refl _, fun _ _ _ => rfl⟩
theorem OnlyIn.of_below {S : Nat → Prop} {w w' : World} (h : Below w.heap.size w w') : OnlyIn S w w' := ⟨h.os, h.tape, h.output, h.size, fun k hk _ => h.block k hk⟩
theorem OnlyIn.of_kept {S : Nat → Prop} {B : Nat} {w w' : World} (h : KeptBut B w w') (hB : S B) : OnlyIn S w w' :=
  ⟨h.os, h.tape, h.output, h.size, fun k hk hn => h.block k hk fun e => hn (by cases e; exact hB)⟩
theorem OnlyIn.set {S : Nat → Prop} {w w1 : World} (h : OnlyIn S w w1) (b : Nat) (hb : S b) (j : Nat) (x : Value) : OnlyIn S w (w1.setCell ⟨b, j, none⟩ x) :=
  have g := grownBy_set w1 ⟨b, j, none⟩ x
  ⟨g.os.trans h.os, g.tape.trans h.tape, g.output.trans h.output, Nat.le_trans h.size g.size, fun k hk hn => (Below.heap_setCell _ _ _ _ (fun e => hn (by rw [e]; exact hb))).trans (h.block k hk hn)⟩
theorem OnlyIn.below {S : Nat → Prop} {B : Nat} {w0 w w' : World} (h : Below B w0 w) (hs : B ≤ w.heap.size) (ho : OnlyIn S w w') (hS : ∀ k, S k → B ≤ k) : Below B w0 w' :=
  ⟨ho.os.trans h.os, ho.tape.trans h.tape, ho.output.trans h.output, Nat.le_trans h.size ho.size, fun k hk => (ho.block k (Nat.lt_of_lt_of_le hk hs) fun e => by have := hS k e; omega).trans (h.block k hk)⟩
theorem OnlyIn.trans {S : Nat → Prop} {w w1 w2 : World} (h : OnlyIn S w w1) (g : OnlyIn S w1 w2) : OnlyIn S w w2 :=
  ⟨g.os.trans h.os, g.tape.trans h.tape, g.output.trans h.output, Nat.le_trans h.size g.size, fun k hk hn => (g.block k (Nat.lt_of_lt_of_le hk h.size) hn).trans (h.block k hk hn)⟩
theorem OnlyIn.weak {S T : Nat → Prop} {w w' : World} (h : OnlyIn S w w') (hs : ∀ k, k < w.heap.size → S k → T k) : OnlyIn T w w' := ⟨h.os, h.tape, h.output, h.size, fun k hk hn => h.block k hk fun e => hn (hs k hk e)⟩
theorem ints_same {w w' : World} {v : Value} {K : List Int} (h : IntsAt w v K) (hb : ∀ p n c, v = .slice (some p) n c → w'.heap[p.block]? = w.heap[p.block]?) : IntsAt w' v K := by
  obtain ⟨p, c, hv, hc, hp⟩ := h
  refine ⟨p, c, hv, hc, fun h0 => ?_⟩
  obtain ⟨b, o, h1, h2⟩ := hp h0
  refine ⟨b, o, h1, fun i hi => ?_⟩
  exact (World.cell?_of_block (a := ⟨b, o + i, none⟩) (hb ⟨b, o, none⟩ _ _ (by rw [hv, h1]))).trans (h2 i hi)
/-- The slice v lies in blocks with F. -/
def LiesIn (F : Nat → Prop) (v : Value) : Prop := ∀ p n c, v = .slice (some p) n c → F p.block
/-- The blocks with F, and what was made between the two worlds. -/
def More (F : Nat → Prop) (w w' : World) : Nat → Prop := fun k => F k ∨ (w.heap.size ≤ k ∧ k < w'.heap.size)
/-- The timer at B, by its footprint F. -/
def TimF (w : World) (F : Nat → Prop) (B : Nat) (R : Int) (d : Bool) (K : List Int) : Prop :=
  F B ∧ ((1 ≤ R ∧ R ≤ 1000000 ∧ ∃ C v, F C ∧ B ≠ C ∧ TimAt w B true (some ⟨C, 0, none⟩) ∧ PlanAt w C R d v ∧ IntsAt w v K ∧ LiesIn F v ∧ LiesIn (fun k => k ≠ B ∧ k ≠ C) v) ∨ (R ≤ 0 ∧ TimAt w B true none))
theorem TimF.same {w w' : World} {F : Nat → Prop} {B : Nat} {R : Int} {d : Bool} {K : List Int} (h : TimF w F B R d K) (hb : ∀ k, k < w.heap.size → F k → w'.heap[k]? = w.heap[k]?) (hF : ∀ k, F k → k < w.heap.size) : TimF w' F B R d K := by
  obtain ⟨hB, h⟩ := h
  refine ⟨hB, ?_⟩
  rcases h with ⟨h1, h2, C, v, h3, h4, h5, h6, h7, h8, h9⟩ | ⟨h1, h2⟩
  · exact Or.inl ⟨h1, h2, C, v, h3, h4, h5.block (hb B (hF B hB) hB), h6.block (hb C (hF C h3) h3), ints_same h7 fun p n c e1 => hb _ (hF _ (h8 p n c e1)) (h8 p n c e1), h8, h9⟩
  · exact Or.inr ⟨h1, h2.block (hb B (hF B hB) hB)⟩
theorem TimF.lt {w : World} {F : Nat → Prop} {B : Nat} {R : Int} {d : Bool} {K : List Int} (h : TimF w F B R d K) : B < w.heap.size := by
  obtain ⟨hB, ⟨_, _, C, v, _, _, h5, _⟩ | ⟨_, h2⟩⟩ := h
  · exact h5.lt
  · exact h2.lt
theorem TimF.more {w : World} {F G : Nat → Prop} {B : Nat} {R : Int} {d : Bool} {K : List Int} (h : TimF w F B R d K) (hg : ∀ k, F k → G k) : TimF w G B R d K := by
  obtain ⟨hB, ⟨h1, h2, C, v, h3, h4, h5, h6, h7, h8, h9⟩ | ⟨h1, h2⟩⟩ := h
  · exact ⟨hg _ hB, Or.inl ⟨h1, h2, C, v, hg _ h3, h4, h5, h6, h7, fun p n c e => hg _ (h8 p n c e), h9⟩⟩
  · exact ⟨hg _ hB, Or.inr ⟨h1, h2⟩⟩
theorem set_off {w : World} {v x : Value} {K : List Int} {b j : Nat} (h : IntsAt w v K) (hn : ∀ p n c, v = .slice (some p) n c → p.block ≠ b) : IntsAt (w.setCell ⟨b, j, none⟩ x) v K :=
  ints_same h fun p n c e1 => Below.heap_setCell _ _ _ _ (hn p n c e1)
theorem tick_F (B : Nat) (F : Nat → Prop) (R : Int) (d : Bool) (K : List Int) (w : World) (h : TimF w F B R d K) :
    Calls Tryd.prog 29 #[.pointer (some ⟨B, 0, none⟩)] w fun e w' => e = .returned (.bool (decide (R = 1))) ∧ TimF w' F B (if 1 ≤ R then R - 1 else R) d K ∧ OnlyIn F w w' := by
  obtain ⟨hB, ⟨h1, h2, C, v, h3, h4, h5, h6, h7, h8, h9⟩ | ⟨h1, h2⟩⟩ := h
  · rw [if_pos h1]
    by_cases hR : R = 1
    · subst hR
      refine (tick_last B C true d v w h5 h6 h4).mono ?_
      rintro e w' ⟨rfl, rfl⟩
      exact ⟨rfl, ⟨hB, Or.inr ⟨by decide, (h5.other h4 _).set none⟩⟩, ((OnlyIn.refl _ _).set C h3 0 _).set B hB 1 _⟩
    · refine (tick_go B C true R d v w h5 h6 h4 (by omega) h2).mono ?_
      rintro e w' ⟨rfl, rfl⟩
      exact ⟨by rw [decide_eq_false hR], ⟨hB, Or.inl ⟨by omega, by omega, C, v, h3, h4, h5.other h4 _, h6.set0 _, set_off h7 (fun p n c e => (h9 p n c e).2), h8, h9⟩⟩, (OnlyIn.refl _ _).set C h3 0 _⟩
  · rw [if_neg (by omega)]
    refine (tick_no B true w h2).mono ?_
    rintro e w' ⟨rfl, rfl⟩
    exact ⟨by rw [decide_eq_false (by omega)], ⟨hB, Or.inr ⟨h1, h2⟩⟩, OnlyIn.refl _ _⟩
theorem new_lies {w : World} {base : Nat} {v : Value} {K : List Int} (h : IntsNew base w v K) : LiesIn (fun k => base ≤ k ∧ k < w.heap.size) v := by
  intro p n c e
  subst e
  exact World.ownsRow.lt h p.block rfl
theorem at_of {w : World} {F : Nat → Prop} {B : Nat} {R : Int} {d : Bool} {K : List Int} (h : TimF w F B R d K) : ∃ p, TimAt w B true p := by
  obtain ⟨hB, ⟨_, _, C, v, _, _, h5, _⟩ | ⟨_, h2⟩⟩ := h
  · exact ⟨_, h5⟩
  · exact ⟨_, h2⟩
/-- What the timer is after Arm. -/
def armR (A : Int) (K : List Int) (R : Int) : Int := if planOK A K = true then A else R
def armD (A : Int) (d : Bool) (K : List Int) (d0 : Bool) : Bool := if planOK A K = true then d else d0
def armK (A : Int) (K K0 : List Int) : List Int := if planOK A K = true then K else K0
/-- Arm: the plan is refused, or is the new one. -/
theorem arm_F (B : Nat) (F : Nat → Prop) (R : Int) (d0 : Bool) (K0 : List Int) (A : Int) (d : Bool) (v : Value) (K : List Int) (w : World) (h : TimF w F B R d0 K0) (hF : ∀ k, F k → k < w.heap.size) (hv : IntsAt w v K) (hl : K.length ≤ 1099511627776) :
    Calls Tryd.prog 26 #[.pointer (some ⟨B, 0, none⟩), planV A d v] w fun e w' => e = .returned (.int .i64 (planE A K)) ∧ OnlyIn F w w' ∧ TimF w' (More F w w') B (armR A K R) (armD A d K d0) (armK A K K0) := by
  obtain ⟨p, ht⟩ := at_of h
  have hB := h.1
  have hlt := h.lt
  unfold armR armD armK planE
  by_cases hp : planOK A K = true
  · obtain ⟨h0, h1, _⟩ := planOK_parts hp
    rw [if_pos hp, if_pos hp, if_pos hp, if_pos hp]
    by_cases hA : 1 ≤ A
    · refine (arm_some B p A d v K w ht hv hA hp).mono ?_
      rintro e w' ⟨rfl, hk, ht', v', hp', hn⟩
      have hl := new_lies hn
      exact ⟨rfl, OnlyIn.of_kept hk hB, Or.inl hB, Or.inl ⟨hA, h1, w.heap.size, v', Or.inr ⟨Nat.le_refl _, hp'.lt⟩, by omega, ht', hp', IntsNew.at hn, fun p n c e => Or.inr ⟨by have := (hl p n c e).1; omega, (hl p n c e).2⟩, fun p n c e => by have := (hl p n c e).1; exact ⟨by omega, by omega⟩⟩⟩
    · obtain rfl : A = 0 := by omega
      refine (arm_zero B p d v K w ht hv hp).mono ?_
      rintro e w' ⟨rfl, hk, ht'⟩
      exact ⟨rfl, OnlyIn.of_kept hk hB, Or.inl hB, Or.inr ⟨Int.le_refl _, ht'⟩⟩
  · rw [if_neg hp, if_neg hp, if_neg hp, if_neg hp]
    have hp2 : planOK A K = false := by simpa using hp
    refine (arm_bad B p A d v K w ht hv hl hp2).mono ?_
    rintro e w' ⟨rfl, hb⟩
    exact ⟨rfl, OnlyIn.of_below hb, (h.same (fun k hk _ => hb.block k hk) hF).more fun k hk => Or.inl hk⟩
theorem disarm_F (B : Nat) (F : Nat → Prop) (R : Int) (d : Bool) (K : List Int) (w : World) (h : TimF w F B R d K) :
    Calls Tryd.prog 35 #[.pointer (some ⟨B, 0, none⟩)] w fun e w' => e = .returned (.tuple #[]) ∧ TimF w' F B 0 false [] ∧ OnlyIn F w w' := by
  obtain ⟨p, ht⟩ := at_of h
  refine (disarm_any B true p w ht).mono ?_
  rintro e w' ⟨rfl, rfl⟩
  exact ⟨rfl, ⟨h.1, Or.inr ⟨Int.le_refl _, ht.set none⟩⟩, (OnlyIn.refl _ _).set B h.1 1 _⟩
theorem copy_F (B : Nat) (F : Nat → Prop) (R : Int) (d : Bool) (K : List Int) (w : World) (h : TimF w F B R d K) (hl : K.length ≤ 34) :
    Calls Tryd.prog 37 #[.pointer (some ⟨B, 0, none⟩)] w fun e w' => ∃ B', e = .returned (.pointer (some ⟨B', 0, none⟩)) ∧ Below w.heap.size w w' ∧ TimF w' (fun k => w.heap.size ≤ k ∧ k < w'.heap.size) B' R d K := by
  obtain ⟨hB, ⟨h1, h2, C, v, h3, h4, h5, h6, h7, h8, h9⟩ | ⟨h1, h2⟩⟩ := h
  · refine (copy_some B C R d v K w h5 h6 h7 (by omega)).mono ?_
    rintro e w' ⟨rfl, hb, C', v', g1, g2, g3, g4, g5⟩
    have hl := new_lies g4
    refine ⟨_, rfl, hb, ⟨Nat.le_refl _, g2.lt⟩, Or.inl ⟨h1, h2, C', v', ⟨by omega, g3.lt⟩, by omega, g2, g3, IntsNew.at g4, fun p n c e => ⟨by have := (hl p n c e).1; omega, (hl p n c e).2⟩, fun p n c e => ⟨by have := (hl p n c e).1; omega, fun e2 => g5 (by rw [e]; exact congrArg some e2)⟩⟩⟩
  · refine (copy_no B w h2).mono ?_
    rintro e w' ⟨rfl, hb, ht⟩
    exact ⟨_, rfl, hb, ⟨Nat.le_refl _, ht.lt⟩, Or.inr ⟨h1, ht⟩⟩
/-- What Plan returns. -/
def plA (R : Int) : Int := if 1 ≤ R then R else 0
def plD (R : Int) (d : Bool) : Bool := if 1 ≤ R then d else false
def plK (R : Int) (K : List Int) : List Int := if 1 ≤ R then K else []
theorem plK_le {R : Int} {K : List Int} (h : K.length ≤ 34) : (plK R K).length ≤ 34 := by
  unfold plK
  split
  · exact h
  · exact Nat.zero_le _
/-- A timer that is nil, or the one at B. -/
def TimN (w : World) (F : Nat → Prop) (p : Option Addr) (R : Int) (d : Bool) (K : List Int) : Prop := (p = none ∧ R = 0) ∨ ∃ B, p = some ⟨B, 0, none⟩ ∧ TimF w F B R d K
theorem plan_N (p : Option Addr) (F : Nat → Prop) (R : Int) (d : Bool) (K : List Int) (w : World) (h : TimN w F p R d K) (hl : K.length ≤ 34) :
    Calls Tryd.prog 27 #[.pointer p] w fun e w' => ∃ q c, e = .returned (.tuple #[planV (plA R) (plD R d) (.slice q (plK R K).length c), .bool (decide (1 ≤ R))]) ∧ IntsNew w.heap.size w' (.slice q (plK R K).length c) (plK R K) ∧ Below w.heap.size w w' := by
  unfold plA plD plK
  rcases h with ⟨rfl, rfl⟩ | ⟨B, rfl, hB, ⟨h1, h2, C, v, h3, h4, h5, h6, h7, h8, h9⟩ | ⟨h1, h2⟩⟩
  · rw [if_neg (by decide), if_neg (by decide), if_neg (by decide)]
    refine (plan_nil w).mono ?_
    rintro e w' ⟨rfl, hb⟩
    exact ⟨none, 0, rfl, IntsNew.nil _ _, hb⟩
  · rw [if_pos h1, if_pos h1, if_pos h1, decide_eq_true h1]
    refine (plan_some B C true R d v K w h5 h6 h7 (by omega)).mono ?_
    rintro e w' ⟨v', rfl, hn, hb⟩
    obtain ⟨p, c, rfl⟩ := ownsRow_slice hn
    exact ⟨p, c, rfl, hn, hb⟩
  · rw [if_neg (by omega), if_neg (by omega), if_neg (by omega), decide_eq_false (by omega)]
    refine (plan_no B true w h2).mono ?_
    rintro e w' ⟨rfl, hb⟩
    exact ⟨none, 0, rfl, IntsNew.nil _ _, hb⟩
end Go.Proofs.YtoceeegdbnigeaaDoor
