/-
  What lives through a round of FaultPlays: two pairs of timers, each with blocks of its own.
  Conditions: none.
-/
import Derived.Test.YtoceeegdbnigeaaDoorFoot11b
set_option linter.unusedVariables false
namespace Go.Proofs.YtoceeegdbnigeaaDoor
open Go Go.RowKit

/-- Blocks by owner: 1 the program's timer, 2 the reference's, 3 and 4 those that were copied; Z: blocks that no timer reaches. -/
structure Live (b0 : Nat) (w0 w : World) (Z : Nat → Prop) (col : Nat → Nat) (B C : Nat) (R : Int) (d : Bool) (K : List Int) (R' : Int) (d' : Bool) (K' : List Int) (po qo : Option Addr) (Ro : Int) (dO : Bool) (Ko : List Int) : Prop where
  t : TimF w (fun k => col k = 1) B R d K
  r : RTF w (fun k => col k = 2) C R' d' K'
  o : TimN w (fun k => col k = 3) po Ro dO Ko
  u : RTN w (fun k => col k = 4) qo Ro dO Ko
  ok : ∀ k, col k ≠ 0 → b0 ≤ k ∧ k < w.heap.size ∧ ¬ Z k
  size : b0 ≤ w.heap.size
  old : Below b0 w0 w
  len : K.length ≤ 34
  leno : Ko.length ≤ 34
  z : ∀ k, Z k → k < w.heap.size
def LiveE (b0 : Nat) (w0 w : World) (Z : Nat → Prop) (B C : Nat) (R : Int) (d : Bool) (K : List Int) (R' : Int) (d' : Bool) (K' : List Int) (po qo : Option Addr) (Ro : Int) (dO : Bool) (Ko : List Int) : Prop :=
  ∃ col, Live b0 w0 w Z col B C R d K R' d' K' po qo Ro dO Ko
theorem TimN.same {w w' : World} {F : Nat → Prop} {p : Option Addr} {R : Int} {d : Bool} {K : List Int} (h : TimN w F p R d K) (hb : ∀ k, k < w.heap.size → F k → w'.heap[k]? = w.heap[k]?) (hF : ∀ k, F k → k < w.heap.size) : TimN w' F p R d K := by
  rcases h with h | ⟨B, hp, h⟩
  · exact Or.inl h
  · exact Or.inr ⟨B, hp, h.same hb hF⟩
theorem RTN.same {w w' : World} {F : Nat → Prop} {p : Option Addr} {R : Int} {d : Bool} {K : List Int} (h : RTN w F p R d K) (hb : ∀ k, k < w.heap.size → F k → w'.heap[k]? = w.heap[k]?) (hF : ∀ k, F k → k < w.heap.size) : RTN w' F p R d K := by
  rcases h with h | ⟨B, hp, h⟩
  · exact Or.inl h
  · exact Or.inr ⟨B, hp, h.same hb hF⟩
theorem TimN.more {w : World} {F G : Nat → Prop} {p : Option Addr} {R : Int} {d : Bool} {K : List Int} (h : TimN w F p R d K) (hg : ∀ k, F k → G k) : TimN w G p R d K := by
  rcases h with h | ⟨B, hp, h⟩
  · exact Or.inl h
  · exact Or.inr ⟨B, hp, h.more hg⟩
theorem RTN.more {w : World} {F G : Nat → Prop} {p : Option Addr} {R : Int} {d : Bool} {K : List Int} (h : RTN w F p R d K) (hg : ∀ k, F k → G k) : RTN w G p R d K := by
  rcases h with h | ⟨B, hp, h⟩
  · exact Or.inl h
  · exact Or.inr ⟨B, hp, h.more hg⟩
/-- The new blocks go to the owner c. -/
def ext (col : Nat → Nat) (w w' : World) (c : Nat) : Nat → Nat := fun k => if k < w.heap.size then col k else if k < w'.heap.size then c else 0
theorem ext_old {col : Nat → Nat} {w w' : World} {c k : Nat} (h : k < w.heap.size) : ext col w w' c k = col k := by unfold ext; rw [if_pos h]
theorem ext_new {col : Nat → Nat} {w w' : World} {c k : Nat} (h : w.heap.size ≤ k) (h2 : k < w'.heap.size) : ext col w w' c k = c := by unfold ext; rw [if_neg (by omega), if_pos h2]
theorem ext_lt {col : Nat → Nat} {w w' : World} {c k : Nat} (h : ext col w w' c k ≠ 0) (hs : w.heap.size ≤ w'.heap.size) : k < w'.heap.size ∧ (k < w.heap.size → col k ≠ 0) := by
  unfold ext at h
  by_cases h1 : k < w.heap.size
  · rw [if_pos h1] at h
    exact ⟨by omega, fun _ => h⟩
  · rw [if_neg h1] at h
    by_cases h2 : k < w'.heap.size
    · exact ⟨h2, fun h3 => absurd h3 h1⟩
    · rw [if_neg h2] at h
      exact absurd rfl h
section
variable {b0 : Nat} {w0 w : World} {Z : Nat → Prop} {col : Nat → Nat} {B C : Nat} {R : Int} {d : Bool} {K : List Int} {R' : Int} {d' : Bool} {K' : List Int} {po qo : Option Addr} {Ro : Int} {dO : Bool} {Ko : List Int}
theorem Live.lt (h : Live b0 w0 w Z col B C R d K R' d' K' po qo Ro dO Ko) {c : Nat} (hc : c ≠ 0) : ∀ k, col k = c → k < w.heap.size := fun k e => (h.ok k (by omega)).2.1
theorem Live.oldOf (h : Live b0 w0 w Z col B C R d K R' d' K' po qo Ro dO Ko) {w' : World} {c : Nat} (hc : c ≠ 0) (ho : OnlyIn (fun k => col k = c) w w') : Below b0 w0 w' := ho.below h.old h.size fun k e => (h.ok k (by omega)).1
theorem Live.step1 (h : Live b0 w0 w Z col B C R d K R' d' K' po qo Ro dO Ko) {w' : World} {R2 : Int} {d2 : Bool} {K2 : List Int} (ho : OnlyIn (fun k => col k = 1) w w') (ht : TimF w' (More (fun k => col k = 1) w w') B R2 d2 K2) (hl : K2.length ≤ 34) :
    LiveE b0 w0 w' Z B C R2 d2 K2 R' d' K' po qo Ro dO Ko ∧ OnlyIn (fun k => b0 ≤ k ∧ ¬ Z k) w w' := by
  have hs := ho.size
  refine ⟨⟨ext col w w' 1, ?_, ?_, ?_, ?_, ?_, Nat.le_trans h.size hs, h.oldOf (by decide) ho, hl, h.leno, fun k hk => Nat.lt_of_lt_of_le (h.z k hk) hs⟩, ho.weak fun k _ e => ⟨(h.ok k (by omega)).1, (h.ok k (by omega)).2.2⟩⟩
  · refine ht.more fun k hk => ?_
    rcases hk with hk | ⟨h1, h2⟩
    · rw [ext_old (h.lt (by decide) k hk)]
      exact hk
    · exact ext_new h1 h2
  · exact (h.r.same (fun k hk e => ho.block k hk (by omega)) (h.lt (by decide))).more fun k hk => by rw [ext_old (h.lt (by decide) k hk)]; exact hk
  · exact (h.o.same (fun k hk e => ho.block k hk (by omega)) (h.lt (by decide))).more fun k hk => by rw [ext_old (h.lt (by decide) k hk)]; exact hk
  · exact (h.u.same (fun k hk e => ho.block k hk (by omega)) (h.lt (by decide))).more fun k hk => by rw [ext_old (h.lt (by decide) k hk)]; exact hk
  · intro k hk
    obtain ⟨h1, h2⟩ := ext_lt hk hs
    by_cases h3 : k < w.heap.size
    · exact ⟨(h.ok k (h2 h3)).1, h1, (h.ok k (h2 h3)).2.2⟩
    · exact ⟨Nat.le_trans h.size (by omega), h1, fun e => h3 (h.z k e)⟩
theorem Live.step2 (h : Live b0 w0 w Z col B C R d K R' d' K' po qo Ro dO Ko) {w' : World} {R2 : Int} {d2 : Bool} {K2 : List Int} (ho : OnlyIn (fun k => col k = 2) w w') (ht : RTF w' (More (fun k => col k = 2) w w') C R2 d2 K2) :
    LiveE b0 w0 w' Z B C R d K R2 d2 K2 po qo Ro dO Ko ∧ OnlyIn (fun k => b0 ≤ k ∧ ¬ Z k) w w' := by
  have hs := ho.size
  refine ⟨⟨ext col w w' 2, ?_, ?_, ?_, ?_, ?_, Nat.le_trans h.size hs, h.oldOf (by decide) ho, h.len, h.leno, fun k hk => Nat.lt_of_lt_of_le (h.z k hk) hs⟩, ho.weak fun k _ e => ⟨(h.ok k (by omega)).1, (h.ok k (by omega)).2.2⟩⟩
  · exact (h.t.same (fun k hk e => ho.block k hk (by omega)) (h.lt (by decide))).more fun k hk => by rw [ext_old (h.lt (by decide) k hk)]; exact hk
  · refine ht.more fun k hk => ?_
    rcases hk with hk | ⟨h1, h2⟩
    · rw [ext_old (h.lt (by decide) k hk)]
      exact hk
    · exact ext_new h1 h2
  · exact (h.o.same (fun k hk e => ho.block k hk (by omega)) (h.lt (by decide))).more fun k hk => by rw [ext_old (h.lt (by decide) k hk)]; exact hk
  · exact (h.u.same (fun k hk e => ho.block k hk (by omega)) (h.lt (by decide))).more fun k hk => by rw [ext_old (h.lt (by decide) k hk)]; exact hk
  · intro k hk
    obtain ⟨h1, h2⟩ := ext_lt hk hs
    by_cases h3 : k < w.heap.size
    · exact ⟨(h.ok k (h2 h3)).1, h1, (h.ok k (h2 h3)).2.2⟩
    · exact ⟨Nat.le_trans h.size (by omega), h1, fun e => h3 (h.z k e)⟩
/-- Blocks that are new are in nobody's hands. -/
theorem LiveE.grab (h : LiveE b0 w0 w Z B C R d K R' d' K' po qo Ro dO Ko) {w' : World} (hb : Below w.heap.size w w') : LiveE b0 w0 w' (More Z w w') B C R d K R' d' K' po qo Ro dO Ko := by
  obtain ⟨col, h⟩ := h
  have hs := hb.size
  refine ⟨col, h.t.same (fun k hk _ => hb.block k hk) (h.lt (by decide)), h.r.same (fun k hk _ => hb.block k hk) (h.lt (by decide)), h.o.same (fun k hk _ => hb.block k hk) (h.lt (by decide)), h.u.same (fun k hk _ => hb.block k hk) (h.lt (by decide)), fun k hk => ?_, Nat.le_trans h.size hs, h.old.trans (hb.mono h.size), h.len, h.leno, fun k hk => ?_⟩
  · obtain ⟨h1, h2, h3⟩ := h.ok k hk
    exact ⟨h1, by omega, fun e => e.elim h3 fun e => by omega⟩
  · rcases hk with hk | hk
    · exact Nat.lt_of_lt_of_le (h.z k hk) hs
    · exact hk.2
theorem LiveE.drop (h : LiveE b0 w0 w Z B C R d K R' d' K' po qo Ro dO Ko) {Y : Nat → Prop} (hy : ∀ k, Y k → Z k) : LiveE b0 w0 w Y B C R d K R' d' K' po qo Ro dO Ko := by
  obtain ⟨col, h⟩ := h
  exact ⟨col, h.t, h.r, h.o, h.u, fun k hk => ⟨(h.ok k hk).1, (h.ok k hk).2.1, fun e => (h.ok k hk).2.2 (hy k e)⟩, h.size, h.old, h.len, h.leno, fun k hk => h.z k (hy k hk)⟩
theorem LiveE.below (h : LiveE b0 w0 w Z B C R d K R' d' K' po qo Ro dO Ko) {w' : World} (hb : Below w.heap.size w w') : LiveE b0 w0 w' Z B C R d K R' d' K' po qo Ro dO Ko := (h.grab hb).drop fun k hk => Or.inl hk
/-- A change in Z alone. -/
theorem LiveE.inZ (h : LiveE b0 w0 w Z B C R d K R' d' K' po qo Ro dO Ko) (hz : ∀ k, Z k → b0 ≤ k) {w' : World} (ho : OnlyIn Z w w') : LiveE b0 w0 w' Z B C R d K R' d' K' po qo Ro dO Ko := by
  obtain ⟨col, h⟩ := h
  have hs := ho.size
  have hb : ∀ {c : Nat}, c ≠ 0 → ∀ k, k < w.heap.size → col k = c → w'.heap[k]? = w.heap[k]? := fun hc k hk e => ho.block k hk (h.ok k (by omega)).2.2
  exact ⟨col, h.t.same (hb (by decide)) (h.lt (by decide)), h.r.same (hb (by decide)) (h.lt (by decide)), h.o.same (hb (by decide)) (h.lt (by decide)), h.u.same (hb (by decide)) (h.lt (by decide)), fun k hk => ⟨(h.ok k hk).1, by have := (h.ok k hk).2.1; omega, (h.ok k hk).2.2⟩, Nat.le_trans h.size hs, ho.below h.old h.size hz, h.len, h.leno, fun k hk => Nat.lt_of_lt_of_le (h.z k hk) hs⟩
theorem OnlyIn.cellZ {w' : World} (h : OnlyIn (fun k => b0 ≤ k ∧ ¬ Z k) w w') {a : Addr} {v : Value} (hc : w.cell? a = some v) (hz : Z a.block) : w'.cell? a = some v :=
  (World.cell?_of_block (h.block _ (World.block_lt_of_cell? _ _ hc) fun e => e.2 hz)).trans hc
theorem OnlyIn.newZ {w' : World} {base : Nat} {v : Value} {L : List Int} (h : OnlyIn (fun k => b0 ≤ k ∧ ¬ Z k) w w') (hn : IntsNew base w v L) (hz : ∀ k, v.ownBlock = some k → Z k) : IntsNew base w' v L := by
  obtain ⟨h1, h2⟩ := hn
  rcases h2 with h2 | ⟨g, cap, cur, rfl, hg, hh, rest⟩
  · exact ⟨h1, Or.inl h2⟩
  · refine ⟨h1, Or.inr ⟨g, cap, cur, rfl, hg, ?_, rest⟩⟩
    rw [h.block g (by
      by_cases hk : g < w.heap.size
      · exact hk
      · rw [Array.getElem?_eq_none (by omega)] at hh
        cases hh) fun e => e.2 (hz g rfl)]
    exact hh
theorem LiveE.old (h : LiveE b0 w0 w Z B C R d K R' d' K' po qo Ro dO Ko) : Below b0 w0 w := by
  obtain ⟨col, h⟩ := h
  exact h.old
theorem LiveE.len_live_plan (h : LiveE b0 w0 w Z B C R d K R' d' K' po qo Ro dO Ko) : (plK R K).length ≤ 34 := by
  obtain ⟨col, h⟩ := h
  exact plK_le h.len
theorem LiveE.len_live_oplan (h : LiveE b0 w0 w Z B C R d K R' d' K' po qo Ro dO Ko) : (plK Ro Ko).length ≤ 34 := by
  obtain ⟨col, h⟩ := h
  exact plK_le h.leno
theorem live_tick (h : LiveE b0 w0 w Z B C R d K R' d' K' po qo Ro dO Ko) :
    Calls Tryd.prog 29 #[.pointer (some ⟨B, 0, none⟩)] w fun e w' => e = .returned (.bool (decide (R = 1))) ∧ LiveE b0 w0 w' Z B C (tickR R) d K R' d' K' po qo Ro dO Ko ∧ OnlyIn (fun k => b0 ≤ k ∧ ¬ Z k) w w' := by
  obtain ⟨col, h⟩ := h
  refine (tick_F B _ R d K w h.t).mono ?_
  rintro e w' ⟨rfl, ht, ho⟩
  exact ⟨rfl, h.step1 ho (ht.more fun k hk => Or.inl hk) h.len⟩
theorem live_rtick (h : LiveE b0 w0 w Z B C R d K R' d' K' po qo Ro dO Ko) :
    Calls Tryd.prog 33 #[.pointer (some ⟨C, 0, none⟩)] w fun e w' => e = .returned (.bool (decide (R' = 1))) ∧ LiveE b0 w0 w' Z B C R d K (tickR R') d' K' po qo Ro dO Ko ∧ OnlyIn (fun k => b0 ≤ k ∧ ¬ Z k) w w' := by
  obtain ⟨col, h⟩ := h
  refine (rtick_F C _ R' d' K' w h.r).mono ?_
  rintro e w' ⟨rfl, ht, ho⟩
  exact ⟨rfl, h.step2 ho (ht.more fun k hk => Or.inl hk)⟩
theorem armK_le {A : Int} {K K0 : List Int} (h : K0.length ≤ 34) : (armK A K K0).length ≤ 34 := by
  unfold armK
  split
  · rename_i hp
    exact (planOK_parts hp).2.2.2.1
  · exact h
theorem live_arm (h : LiveE b0 w0 w Z B C R d K R' d' K' po qo Ro dO Ko) (A : Int) (d2 : Bool) (v : Value) (L : List Int) (hv : IntsAt w v L) (hl : L.length ≤ 1099511627776) :
    Calls Tryd.prog 26 #[.pointer (some ⟨B, 0, none⟩), planV A d2 v] w fun e w' => e = .returned (.int .i64 (planE A L)) ∧ LiveE b0 w0 w' Z B C (armR A L R) (armD A d2 L d) (armK A L K) R' d' K' po qo Ro dO Ko ∧ OnlyIn (fun k => b0 ≤ k ∧ ¬ Z k) w w' := by
  obtain ⟨col, h⟩ := h
  refine (arm_F B _ R d K A d2 v L w h.t (h.lt (by decide)) hv hl).mono ?_
  rintro e w' ⟨rfl, ho, ht⟩
  exact ⟨rfl, h.step1 ho ht (armK_le h.len)⟩
theorem live_rarm (h : LiveE b0 w0 w Z B C R d K R' d' K' po qo Ro dO Ko) (A : Int) (d2 : Bool) (v : Value) (L : List Int) (hv : IntsAt w v L) (hl : L.length ≤ 1099511627776) :
    Calls Tryd.prog 34 #[.pointer (some ⟨C, 0, none⟩), planV A d2 v] w fun e w' => e = .returned (.int .i64 (planE A L)) ∧ LiveE b0 w0 w' Z B C R d K (armR A L R') (armD A d2 L d') (armK A L K') po qo Ro dO Ko ∧ OnlyIn (fun k => b0 ≤ k ∧ ¬ Z k) w w' := by
  obtain ⟨col, h⟩ := h
  refine (rarm_F C _ R' d' K' A d2 v L w h.r (h.lt (by decide)) hv hl).mono ?_
  rintro e w' ⟨rfl, ho, ht⟩
  exact ⟨rfl, h.step2 ho ht⟩
theorem live_disarm (h : LiveE b0 w0 w Z B C R d K R' d' K' po qo Ro dO Ko) :
    Calls Tryd.prog 35 #[.pointer (some ⟨B, 0, none⟩)] w fun e w' => e = .returned (.tuple #[]) ∧ LiveE b0 w0 w' Z B C 0 false [] R' d' K' po qo Ro dO Ko := by
  obtain ⟨col, h⟩ := h
  refine (disarm_F B _ R d K w h.t).mono ?_
  rintro e w' ⟨rfl, ht, ho⟩
  exact ⟨rfl, (h.step1 ho (ht.more fun k hk => Or.inl hk) (Nat.zero_le _)).1⟩
theorem live_rdisarm (h : LiveE b0 w0 w Z B C R d K R' d' K' po qo Ro dO Ko) :
    Calls Tryd.prog 36 #[.pointer (some ⟨C, 0, none⟩)] w fun e w' => e = .returned (.tuple #[]) ∧ LiveE b0 w0 w' Z B C R d K 0 false [] po qo Ro dO Ko := by
  obtain ⟨col, h⟩ := h
  refine (rdisarm_F C _ R' d' K' w h.r).mono ?_
  rintro e w' ⟨rfl, ht, ho⟩
  exact ⟨rfl, (h.step2 ho (ht.more fun k hk => Or.inl hk)).1⟩
theorem live_copy (h : LiveE b0 w0 w Z B C R d K R' d' K' po qo Ro dO Ko) :
    Calls Tryd.prog 37 #[.pointer (some ⟨B, 0, none⟩)] w fun e w' => ∃ B', e = .returned (.pointer (some ⟨B', 0, none⟩)) ∧ Below w.heap.size w w' ∧ TimF w' (fun k => w.heap.size ≤ k ∧ k < w'.heap.size) B' R d K := by
  obtain ⟨col, h⟩ := h
  exact copy_F B _ R d K w h.t h.len
theorem live_rcopy (h : LiveE b0 w0 w Z B C R d K R' d' K' po qo Ro dO Ko) :
    Calls Tryd.prog 38 #[.pointer (some ⟨C, 0, none⟩)] w fun e w' => ∃ C', e = .returned (.pointer (some ⟨C', 0, none⟩)) ∧ Below w.heap.size w w' ∧ RTF w' (fun k => w.heap.size ≤ k ∧ k < w'.heap.size) C' R' d' K' := by
  obtain ⟨col, h⟩ := h
  exact rcopy_F C _ R' d' K' w h.r
theorem live_plan (h : LiveE b0 w0 w Z B C R d K R' d' K' po qo Ro dO Ko) :
    Calls Tryd.prog 27 #[.pointer (some ⟨B, 0, none⟩)] w fun e w' => ∃ q c, e = .returned (.tuple #[planV (plA R) (plD R d) (.slice q (plK R K).length c), .bool (decide (1 ≤ R))]) ∧ IntsNew w.heap.size w' (.slice q (plK R K).length c) (plK R K) ∧ Below w.heap.size w w' := by
  obtain ⟨col, h⟩ := h
  exact plan_N _ _ R d K w (Or.inr ⟨B, rfl, h.t⟩) h.len
theorem live_rplan (h : LiveE b0 w0 w Z B C R d K R' d' K' po qo Ro dO Ko) :
    Calls Tryd.prog 39 #[.pointer (some ⟨C, 0, none⟩)] w fun e w' => ∃ q c, e = .returned (.tuple #[planV (plA R') (plD R' d') (.slice q (plK R' K').length c), .bool (decide (1 ≤ R'))]) ∧ IntsNew w.heap.size w' (.slice q (plK R' K').length c) (plK R' K') ∧ Below w.heap.size w w' := by
  obtain ⟨col, h⟩ := h
  exact rplan_N _ _ R' d' K' w (Or.inr ⟨C, rfl, h.r⟩)
theorem live_oplan (h : LiveE b0 w0 w Z B C R d K R' d' K' po qo Ro dO Ko) :
    Calls Tryd.prog 27 #[.pointer po] w fun e w' => ∃ q c, e = .returned (.tuple #[planV (plA Ro) (plD Ro dO) (.slice q (plK Ro Ko).length c), .bool (decide (1 ≤ Ro))]) ∧ IntsNew w.heap.size w' (.slice q (plK Ro Ko).length c) (plK Ro Ko) ∧ Below w.heap.size w w' := by
  obtain ⟨col, h⟩ := h
  exact plan_N _ _ Ro dO Ko w h.o h.leno
theorem live_uplan (h : LiveE b0 w0 w Z B C R d K R' d' K' po qo Ro dO Ko) :
    Calls Tryd.prog 39 #[.pointer qo] w fun e w' => ∃ q c, e = .returned (.tuple #[planV (plA Ro) (plD Ro dO) (.slice q (plK Ro Ko).length c), .bool (decide (1 ≤ Ro))]) ∧ IntsNew w.heap.size w' (.slice q (plK Ro Ko).length c) (plK Ro Ko) ∧ Below w.heap.size w w' := by
  obtain ⟨col, h⟩ := h
  exact rplan_N _ _ Ro dO Ko w h.u
/-- Both are copied: the copies go on, the first two are the ones to be kept. -/
theorem LiveE.swap (h : LiveE b0 w0 w Z B C R d K R d K po qo Ro dO Ko) {w1 w2 : World} {B' C' : Nat} (b1 : Below w.heap.size w w1) (ht : TimF w1 (fun k => w.heap.size ≤ k ∧ k < w1.heap.size) B' R d K) (b2 : Below w1.heap.size w1 w2) (hr : RTF w2 (fun k => w1.heap.size ≤ k ∧ k < w2.heap.size) C' R d K) :
    LiveE b0 w0 w2 Z B' C' R d K R d K (some ⟨B, 0, none⟩) (some ⟨C, 0, none⟩) R d K := by
  obtain ⟨col, h⟩ := h
  have s1 := b1.size
  have s2 := b2.size
  have b12 := b1.trans (b2.mono s1)
  refine ⟨fun k => if k < w.heap.size then (if col k = 1 then 3 else if col k = 2 then 4 else 0) else if k < w1.heap.size then 1 else if k < w2.heap.size then 2 else 0, ?_, ?_, Or.inr ⟨B, rfl, ?_⟩, Or.inr ⟨C, rfl, ?_⟩, fun k hk => ?_, Nat.le_trans h.size (by omega), h.old.trans (b12.mono h.size), h.len, h.len, fun k hk => Nat.lt_of_lt_of_le (h.z k hk) (by omega)⟩
  · refine (ht.same (fun k hk _ => b2.block k hk) (fun k hk => hk.2)).more fun k hk => ?_
    rw [if_neg (by omega), if_pos hk.2]
  · refine hr.more fun k hk => ?_
    rw [if_neg (by omega), if_neg (by omega), if_pos hk.2]
  · refine (h.t.same (fun k hk _ => b12.block k hk) (h.lt (by decide))).more fun k hk => ?_
    rw [if_pos (h.lt (by decide) k hk), if_pos hk]
  · refine (h.r.same (fun k hk _ => b12.block k hk) (h.lt (by decide))).more fun k hk => ?_
    rw [if_pos (h.lt (by decide) k hk), if_neg (by omega), if_pos hk]
  · skip
    by_cases h1 : k < w.heap.size
    · have hc : col k ≠ 0 := by
        intro e
        rw [if_pos h1, e] at hk
        exact hk rfl
      obtain ⟨g1, g2, g3⟩ := h.ok k hc
      exact ⟨g1, by omega, g3⟩
    · rw [if_neg h1] at hk
      refine ⟨Nat.le_trans h.size (by omega), ?_, fun e => h1 (h.z k e)⟩
      by_cases h2 : k < w1.heap.size
      · omega
      · rw [if_neg h2] at hk
        by_cases h3 : k < w2.heap.size
        · exact h3
        · rw [if_neg h3] at hk
          exact absurd rfl hk
end
/-- New timers. -/
theorem live_new (w0 : World) (t : TypeId) (u : TypeId) :
    LiveE w0.heap.size w0 ((w0.alloc (.cells #[.bool true, .pointer none] t)).alloc (.cells #[.bool true, .int .i64 0, .bool false, .slice none 0 0] u)) (fun _ => False) w0.heap.size (w0.heap.size + 1) 0 false [] 0 false [] none none 0 false [] := by
  have hs1 : (w0.alloc (.cells #[.bool true, .pointer none] t)).heap.size = w0.heap.size + 1 := by simp
  have hT := TimAt.new w0 true none t
  have a1 := (Below.refl w0.heap.size w0).alloc (Nat.le_refl _) (.cells #[.bool true, .pointer none] t)
  generalize (w0.alloc (.cells #[.bool true, .pointer none] t)) = w1 at *
  have a2 := (Below.refl w1.heap.size w1).alloc (Nat.le_refl _) (.cells #[.bool true, .int .i64 0, .bool false, .slice none 0 0] u)
  have hR := RAt.new w1 true 0 false (.slice none 0 0) u
  have hs2 : (w1.alloc (.cells #[.bool true, .int .i64 0, .bool false, .slice none 0 0] u)).heap.size = w0.heap.size + 2 := by simp [hs1]
  rw [hs1] at hR
  refine ⟨fun k => if k = w0.heap.size then 1 else if k = w0.heap.size + 1 then 2 else 0, ⟨by simp, Or.inr ⟨Int.le_refl _, hT.below a2⟩⟩, ⟨by simp, Int.le_refl _, by decide, Nat.zero_le _, _, hR, IntsAt.nil _ _ _, lies_nil _ _ _, lies_nil _ _ _⟩, Or.inl ⟨rfl, rfl⟩, Or.inl ⟨rfl, rfl⟩, fun k hk => ?_, by omega, a1.trans (a2.mono a1.size), Nat.zero_le _, Nat.zero_le _, fun k hk => hk.elim⟩
  by_cases h1 : k = w0.heap.size
  · exact ⟨by omega, by omega, id⟩
  · rw [if_neg h1] at hk
    by_cases h2 : k = w0.heap.size + 1
    · exact ⟨by omega, by omega, id⟩
    · rw [if_neg h2] at hk
      exact absurd rfl hk
end Go.Proofs.YtoceeegdbnigeaaDoor
