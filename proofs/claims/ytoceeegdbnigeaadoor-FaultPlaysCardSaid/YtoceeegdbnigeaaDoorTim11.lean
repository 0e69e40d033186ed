/-
  Timers: what each call does to memory.
  Conditions: none.
-/
import Derived.Test.YtoceeegdbnigeaaDoorInts
import Derived.Test.YtoceeegdbnigeaaDoorPl11
set_option linter.unusedVariables false
namespace Go.Proofs.YtoceeegdbnigeaaDoor
open Go Go.RowKit

/-- A timer in memory. -/
def TimAt (w : World) (B : Nat) (m : Bool) (p : Option Addr) : Prop := (w.cell? ⟨B, 0, none⟩ = some (.bool m) ∧ w.cell? ⟨B, 1, none⟩ = some (.pointer p)) ∧ ∀ j, w.frozen? ⟨B, j, none⟩ = false
theorem TimAt.new (w : World) (m : Bool) (p : Option Addr) (t : TypeId) : TimAt (w.alloc (.cells #[.bool m, .pointer p] t)) w.heap.size m p :=
  ⟨⟨by rw [Lib.cell_of_heap (heap_alloc_new w _)]; rfl, by rw [Lib.cell_of_heap (heap_alloc_new w _)]; rfl⟩, fun j => new_free _ _ j⟩
theorem TimAt.below {w w' : World} {B : Nat} {m : Bool} {p : Option Addr} (h : TimAt w B m p) (hb : Below w.heap.size w w') : TimAt w' B m p := by
  obtain ⟨⟨h0, h1⟩, h3⟩ := h
  have hl := World.block_lt_of_cell? w _ h0
  exact ⟨⟨cell_kept h0 hb, cell_kept h1 hb⟩, fun j => free_kept (h3 j) hl hb⟩
theorem TimAt.block {w w' : World} {B : Nat} {m : Bool} {p : Option Addr} (h : TimAt w B m p) (hb : w'.heap[B]? = w.heap[B]?) : TimAt w' B m p := by
  obtain ⟨⟨h0, h1⟩, h3⟩ := h
  exact ⟨⟨(World.cell?_of_block hb).trans h0, (World.cell?_of_block hb).trans h1⟩, fun j => (World.frozen?_of_block hb).trans (h3 j)⟩
theorem TimAt.lt {w : World} {B : Nat} {m : Bool} {p : Option Addr} (h : TimAt w B m p) : B < w.heap.size := World.block_lt_of_cell? w _ h.1.1
theorem PlanAt.lt {w : World} {B : Nat} {A : Int} {d : Bool} {v : Value} (h : PlanAt w B A d v) : B < w.heap.size := World.block_lt_of_cell? w _ h.1.1
theorem TimAt.set {w : World} {B : Nat} {m : Bool} {p : Option Addr} (h : TimAt w B m p) (q : Option Addr) : TimAt (w.setCell ⟨B, 1, none⟩ (.pointer q)) B m q := by
  obtain ⟨⟨h0, h1⟩, h3⟩ := h
  have n0 : (⟨B, 0, none⟩ : Addr) ≠ ⟨B, 1, none⟩ := by intro he; injection he with e1 e2; omega
  exact ⟨⟨by rw [World.cell?_setCell_other (h := Ne.symm n0)]; exact h0, World.cell?_setCell_same w ⟨B, 1, none⟩ _ h1⟩, fun j => by rw [World.frozen?_setCell]; exact h3 j⟩
theorem TimAt.other {w : World} {B C j : Nat} {m : Bool} {p : Option Addr} (h : TimAt w B m p) (hn : B ≠ C) (x : Value) : TimAt (w.setCell ⟨C, j, none⟩ x) B m p :=
  h.block (Below.heap_setCell _ _ _ _ hn)
theorem PlanAt.other {w : World} {B C j : Nat} {A : Int} {d : Bool} {v : Value} (h : PlanAt w B A d v) (hn : B ≠ C) (x : Value) : PlanAt (w.setCell ⟨C, j, none⟩ x) B A d v :=
  h.block (Below.heap_setCell _ _ _ _ hn)
theorem PlanAt.set0 {w : World} {B : Nat} {A : Int} {d : Bool} {v : Value} (h : PlanAt w B A d v) (A' : Int) : PlanAt (w.setCell ⟨B, 0, none⟩ (.int .i64 A')) B A' d v := by
  obtain ⟨⟨h0, h1, h2⟩, h3⟩ := h
  have n1 : (⟨B, 1, none⟩ : Addr) ≠ ⟨B, 0, none⟩ := by intro he; injection he with e1 e2; omega
  have n2 : (⟨B, 2, none⟩ : Addr) ≠ ⟨B, 0, none⟩ := by intro he; injection he with e1 e2; omega
  exact ⟨⟨World.cell?_setCell_same w ⟨B, 0, none⟩ _ h0, by rw [World.cell?_setCell_other (h := Ne.symm n1)]; exact h1, by rw [World.cell?_setCell_other (h := Ne.symm n2)]; exact h2⟩, fun j => by rw [World.frozen?_setCell]; exact h3 j⟩
theorem new_any (w : World) :
    Calls Tryd.prog 25 #[] w fun e w' => e = .returned (.pointer (some ⟨w.heap.size, 0, none⟩)) ∧ w' = w.alloc (.cells #[.bool true, .pointer none] 63) := by
  go_enter Tryd.func25, Tryd.ntmps25
  go_wp2_with fail
  go_ret
  exact ⟨rfl, rfl⟩
theorem tick_nil (w : World) :
    Calls Tryd.prog 29 #[.pointer none] w fun e w' => e = .returned (.bool false) ∧ w = w' := by
  go_enter Tryd.func29, Tryd.ntmps29
  go_wp2_with fail
  go_ret
  exact ⟨rfl, rfl⟩
theorem tick_no (B : Nat) (m : Bool) (w : World) (h : TimAt w B m none) :
    Calls Tryd.prog 29 #[.pointer (some ⟨B, 0, none⟩)] w fun e w' => e = .returned (.bool false) ∧ w = w' := by
  obtain ⟨⟨k0, k1⟩, kf⟩ := h
  go_enter Tryd.func29, Tryd.ntmps29
  go_wp2_with fail
  go_ret
  exact ⟨rfl, rfl⟩
set_option maxHeartbeats 1000000 in
theorem tick_go (B C : Nat) (m : Bool) (A : Int) (d : Bool) (v : Value) (w : World) (h : TimAt w B m (some ⟨C, 0, none⟩)) (hp : PlanAt w C A d v) (hn : B ≠ C) (hA : 1 < A) (hA2 : A ≤ 1000000) :
    Calls Tryd.prog 29 #[.pointer (some ⟨B, 0, none⟩)] w fun e w' => e = .returned (.bool false) ∧ w' = w.setCell ⟨C, 0, none⟩ (.int .i64 (A - 1)) := by
  have h2 := h.other (j := 0) hn (.int .i64 (A - 1))
  have hp2 := hp.set0 (A - 1)
  obtain ⟨⟨k0, k1⟩, kf⟩ := h
  obtain ⟨⟨q0, q1⟩, qf⟩ := h2
  obtain ⟨⟨p0, p1, p2⟩, pf⟩ := hp
  obtain ⟨⟨r0, r1, r2⟩, rf⟩ := hp2
  have pf0 := pf 0
  have wr : IntKind.i64.wrap (A - 1) = A - 1 := IntWalk.i64_in _ (by omega)
  have d1 : decide (1 < A) = true := by rw [decide_eq_true_iff]; omega
  clear kf qf pf rf hA hA2
  go_enter Tryd.func29, Tryd.ntmps29
  go_wp2_with fail
  go_ret
  exact ⟨rfl, rfl⟩
set_option maxHeartbeats 1000000 in
theorem tick_last (B C : Nat) (m : Bool) (d : Bool) (v : Value) (w : World) (h : TimAt w B m (some ⟨C, 0, none⟩)) (hp : PlanAt w C 1 d v) (hn : B ≠ C) :
    Calls Tryd.prog 29 #[.pointer (some ⟨B, 0, none⟩)] w fun e w' => e = .returned (.bool true) ∧ w' = (w.setCell ⟨C, 0, none⟩ (.int .i64 0)).setCell ⟨B, 1, none⟩ (.pointer none) := by
  have h2 := h.other (j := 0) hn (.int .i64 0)
  have hp2 := hp.set0 0
  obtain ⟨⟨k0, k1⟩, kf⟩ := h
  obtain ⟨⟨q0, q1⟩, qf⟩ := h2
  obtain ⟨⟨p0, p1, p2⟩, pf⟩ := hp
  obtain ⟨⟨r0, r1, r2⟩, rf⟩ := hp2
  have pf0 := pf 0
  have qf1 := qf 1
  have wr : IntKind.i64.wrap (1 - 1) = 0 := by decide
  clear kf qf pf rf
  go_enter Tryd.func29, Tryd.ntmps29
  go_wp2_with fail
  go_ret
  exact ⟨rfl, rfl⟩
theorem disarm_nil (w : World) :
    Calls Tryd.prog 35 #[.pointer none] w fun e w' => e = .returned (.tuple #[]) ∧ w = w' := by
  go_enter Tryd.func35, Tryd.ntmps35
  go_wp2_with fail
  go_end0
  exact ⟨rfl, rfl⟩
theorem disarm_any (B : Nat) (m : Bool) (p : Option Addr) (w : World) (h : TimAt w B m p) :
    Calls Tryd.prog 35 #[.pointer (some ⟨B, 0, none⟩)] w fun e w' => e = .returned (.tuple #[]) ∧ w' = w.setCell ⟨B, 1, none⟩ (.pointer none) := by
  obtain ⟨⟨k0, k1⟩, kf⟩ := h
  have kf1 := kf 1
  clear kf
  go_enter Tryd.func35, Tryd.ntmps35
  go_wp2_with fail
  go_end0
  exact ⟨rfl, rfl⟩
theorem results_plan_slot {fn : Func} {t u : Tmp} (h : fn.results = #[.cell t 24, .tmp u]) (tmps : Array Value) (w : World) (B : Nat) (A : Int) (d : Bool) (v x : Value) (hp : PlanAt w B A d v) (ht : tmps.getD t undef = .pointer (some ⟨B, 0, none⟩)) (hu : tmps.getD u undef = x) : (results fn tmps).run Tryd.prog w = .ok (.tuple #[planV A d v, x]) w := by
  obtain ⟨⟨h0, h1, h2⟩, _⟩ := hp
  have ht' : tmps[t]?.getD undef = .pointer (some ⟨B, 0, none⟩) := by simpa using ht
  have hu' : tmps[u]?.getD undef = x := by simpa using hu
  simp [results, h, ht', hu', asAddr]
  go_simp
  done
theorem plan_nil (w : World) :
    Calls Tryd.prog 27 #[.pointer none] w fun e w' => e = .returned (.tuple #[planV 0 false (.slice none 0 0), .bool false]) ∧ Below w.heap.size w w' := by
  have h0 := PlanAt.new w 0 false (.slice none 0 0) 24
  obtain ⟨⟨r0, r1, r2⟩, rf⟩ := h0
  have rf0 := rf 0
  have rf1 := rf 1
  have rf2 := rf 2
  clear rf
  go_enter Tryd.func27, Tryd.ntmps27
  go_wp2_with fail
  refine bodyPost_ret (results_plan_slot rfl _ _ w.heap.size 0 false (.slice none 0 0) (.bool false) (PlanAt.new w 0 false (.slice none 0 0) 24) rfl rfl) rfl ⟨rfl, (Below.refl _ _).alloc (Nat.le_refl _) _⟩
theorem plan_no (B : Nat) (m : Bool) (w : World) (h : TimAt w B m none) :
    Calls Tryd.prog 27 #[.pointer (some ⟨B, 0, none⟩)] w fun e w' => e = .returned (.tuple #[planV 0 false (.slice none 0 0), .bool false]) ∧ Below w.heap.size w w' := by
  obtain ⟨⟨k0, k1⟩, kf⟩ := h.below ((Below.refl w.heap.size w).alloc (Nat.le_refl _) (.cells #[.int .i64 0, .bool false, .slice none 0 0] 24))
  have h0 := PlanAt.new w 0 false (.slice none 0 0) 24
  obtain ⟨⟨r0, r1, r2⟩, rf⟩ := h0
  have rf0 := rf 0
  have rf1 := rf 1
  have rf2 := rf 2
  clear rf kf h
  go_enter Tryd.func27, Tryd.ntmps27
  go_wp2_with fail
  refine bodyPost_ret (results_plan_slot rfl _ _ w.heap.size 0 false (.slice none 0 0) (.bool false) (PlanAt.new w 0 false (.slice none 0 0) 24) rfl rfl) rfl ⟨rfl, (Below.refl _ _).alloc (Nat.le_refl _) _⟩
set_option maxHeartbeats 1000000 in
theorem plan_some (B C : Nat) (m : Bool) (A : Int) (d : Bool) (v : Value) (L : List Int) (w : World) (h : TimAt w B m (some ⟨C, 0, none⟩)) (hp : PlanAt w C A d v) (hv : IntsAt w v L) (hl : L.length ≤ 1099511627776) :
    Calls Tryd.prog 27 #[.pointer (some ⟨B, 0, none⟩)] w fun e w' => ∃ v', e = .returned (.tuple #[planV A d v', .bool true]) ∧ IntsNew w.heap.size w' v' L ∧ Below w.heap.size w w' := by
  have c1 := (Below.refl w.heap.size w).alloc (Nat.le_refl _) (.cells #[.int .i64 0, .bool false, .slice none 0 0] 24)
  have hsz : (w.alloc (.cells #[.int .i64 0, .bool false, .slice none 0 0] 24)).heap.size = w.heap.size + 1 := by simp
  obtain ⟨⟨k0, k1⟩, kf⟩ := h.below c1
  obtain ⟨⟨p0, p1, p2⟩, pf⟩ := hp.below c1
  have HV := Lib.hid (hv.below c1)
  have HL := Lib.hid hl
  have HP0 := Lib.hid (PlanAt.new w 0 false (.slice none 0 0) 24)
  clear kf h hv hl pf
  go_enter Tryd.func27, Tryd.ntmps27
  go_wp2_with fail
  refine (fclone_any A d v L _ HV.out HL.out).mono ?_
  rintro e w1 ⟨v', rfl, hn, b1⟩
  obtain ⟨p', c', rfl⟩ := ownsRow_slice hn
  rw [hsz] at hn
  have HR := Lib.hid (HP0.out.below b1)
  obtain ⟨⟨r0, r1, r2⟩, rf⟩ := HP0.out.below b1
  have rf0 := rf 0
  have rf1 := rf 1
  have rf2 := rf 2
  have c2 := c1.trans (b1.mono c1.size)
  have HN := Lib.hid hn
  clear rf c1 b1 hn k0 k1 p0 p1 p2
  go_wp2_with fail
  refine bodyPost_ret (results_plan_slot rfl _ _ w.heap.size A d (.slice p' L.length c') (.bool true) (HR.out.set A d (.slice p' L.length c')) rfl rfl) rfl ⟨_, rfl, ?_, ?_⟩
  · exact (((HN.out.set ⟨w.heap.size, 0, none⟩ _ (by simp)).set ⟨w.heap.size, 1, none⟩ _ (by simp)).set ⟨w.heap.size, 2, none⟩ _ (by simp)).base (by omega)
  · exact below_set (below_set (below_set c2 _ (by omega) 0 _) _ (by omega) 1 _) _ (by omega) 2 _
/-- All that lay before lies as before, but for one block. -/
def KeptBut (B : Nat) (w w' : World) : Prop := w.grownBy w' (some B)
theorem arm_nil (A : Int) (d : Bool) (v : Value) (w : World) :
    Calls Tryd.prog 26 #[.pointer none, planV A d v] w fun e w' => e = .returned (.int .i64 1) ∧ Below w.heap.size w w' := by
  go_enter Tryd.func26, Tryd.ntmps26
  go_wp2_with fail
  go_ret
  exact ⟨rfl, (Below.refl _ _).alloc (Nat.le_refl _) _⟩
theorem arm_unmade (B : Nat) (p : Option Addr) (A : Int) (d : Bool) (v : Value) (w : World) (h : TimAt w B false p) :
    Calls Tryd.prog 26 #[.pointer (some ⟨B, 0, none⟩), planV A d v] w fun e w' => e = .returned (.int .i64 1) ∧ Below w.heap.size w w' := by
  obtain ⟨⟨k0, k1⟩, kf⟩ := h.below ((Below.refl w.heap.size w).alloc (Nat.le_refl _) (.cells #[.int .i64 A, .bool d, v] 24))
  clear kf h
  go_enter Tryd.func26, Tryd.ntmps26
  go_wp2_with fail
  go_ret
  exact ⟨rfl, (Below.refl _ _).alloc (Nat.le_refl _) _⟩
set_option maxHeartbeats 1000000 in
theorem arm_bad (B : Nat) (p : Option Addr) (A : Int) (d : Bool) (v : Value) (L : List Int) (w : World) (h : TimAt w B true p) (hv : IntsAt w v L) (hl : L.length ≤ 1099511627776) (hp : planOK A L = false) :
    Calls Tryd.prog 26 #[.pointer (some ⟨B, 0, none⟩), planV A d v] w fun e w' => e = .returned (.int .i64 2) ∧ Below w.heap.size w w' := by
  have HE : Hid (planE A L = 2) := by show _ = _; unfold planE; rw [if_neg (by rw [hp]; decide)]
  have c1 : Below w.heap.size w (w.alloc (.cells #[.int .i64 A, .bool d, v] 24)) := (Below.refl _ _).alloc (Nat.le_refl _) _
  obtain ⟨⟨k0, k1⟩, kf⟩ := h.below c1
  obtain ⟨q0, q1, q2⟩ := planAt_new w A d v 24
  have HV := Lib.hid (hv.below c1)
  have HL := Lib.hid hl
  clear kf h hv hl hp
  go_enter Tryd.func26, Tryd.ntmps26
  go_wp2_with fail
  refine (fcheck_any A d _ L _ HV.out HL.out).mono ?_
  rw [HE.out]
  rintro e w1 ⟨rfl, b1⟩
  have c2 := c1.trans (b1.mono c1.size)
  clear k0 k1 q0 q1 q2 b1 c1
  go_wp2_with fail
  go_ret
  exact ⟨rfl, c2⟩
set_option maxHeartbeats 1000000 in
theorem arm_zero (B : Nat) (p : Option Addr) (d : Bool) (v : Value) (L : List Int) (w : World) (h : TimAt w B true p) (hv : IntsAt w v L) (hp : planOK 0 L = true) :
    Calls Tryd.prog 26 #[.pointer (some ⟨B, 0, none⟩), planV 0 d v] w fun e w' => e = .returned (.int .i64 0) ∧ KeptBut B w w' ∧ TimAt w' B true none := by
  have HE : Hid (planE 0 L = 0) := by show _ = _; unfold planE; rw [if_pos hp]
  obtain ⟨_, _, _, h34, _⟩ := planOK_parts hp
  have c1 : Below w.heap.size w (w.alloc (.cells #[.int .i64 0, .bool d, v] 24)) := (Below.refl _ _).alloc (Nat.le_refl _) _
  have HT1 := Lib.hid (h.below c1)
  obtain ⟨⟨k0, k1⟩, kf⟩ := h.below c1
  have HP1 := Lib.hid (PlanAt.new w 0 d v 24)
  obtain ⟨q0, q1, q2⟩ := planAt_new w 0 d v 24
  have HV := Lib.hid (hv.below c1)
  have HL := Lib.hid h34
  have hBl := h.lt
  clear kf h hv hp h34
  go_enter Tryd.func26, Tryd.ntmps26
  go_wp2_with fail
  refine (fcheck_any 0 d _ L _ HV.out (by have := HL.out; omega)).mono ?_
  rw [HE.out]
  rintro e w1 ⟨rfl, b1⟩
  have c2 := c1.trans (b1.mono c1.size)
  have HT2 := Lib.hid (HT1.out.below b1)
  obtain ⟨⟨k0, k1⟩, kf⟩ := HT1.out.below b1
  have kf1 := kf 1
  have HP3 : Hid (PlanAt (w1.setCell ⟨B, 1, none⟩ (.pointer none)) w.heap.size 0 d v) := (HP1.out.below b1).other (by omega) _
  obtain ⟨⟨r0, r1, r2⟩, rf⟩ := HP3.out
  have HK : Hid (KeptBut B w (w1.setCell ⟨B, 1, none⟩ (.pointer none))) := (World.grownBy.trans (below_grow c2 (some B)) (grownBy_set w1 ⟨B, 1, none⟩ (.pointer none)))
  clear q0 q1 q2 b1 c1 kf rf hBl
  go_wp2_with fail
  go_ret
  exact ⟨rfl, HK.out, HT2.out.set none⟩
theorem kept_own {B base : Nat} {w w' : World} {v : Value} {L : List Int} (h : IntsNew base w v L) (hk : KeptBut B w w') (hb : B < base) : IntsNew base w' v L :=
  World.ownsRow.kept h hk (Or.inr fun e => by have := (World.ownsRow.lt h _ e).1; omega)
set_option maxRecDepth 100000 in
set_option maxHeartbeats 2000000 in
theorem arm_some (B : Nat) (p : Option Addr) (A : Int) (d : Bool) (v : Value) (L : List Int) (w : World) (h : TimAt w B true p) (hv : IntsAt w v L) (hA : 1 ≤ A) (hp : planOK A L = true) :
    Calls Tryd.prog 26 #[.pointer (some ⟨B, 0, none⟩), planV A d v] w fun e w' => e = .returned (.int .i64 0) ∧ KeptBut B w w' ∧ TimAt w' B true (some ⟨w.heap.size, 0, none⟩) ∧ ∃ v', PlanAt w' w.heap.size A d v' ∧ IntsNew (w.heap.size + 1) w' v' L := by
  have HE : Hid (planE A L = 0) := by show _ = _; unfold planE; rw [if_pos hp]
  obtain ⟨_, hA2, _, h34, _⟩ := planOK_parts hp
  have c1 : Below w.heap.size w (w.alloc (.cells #[.int .i64 A, .bool d, v] 24)) := (Below.refl _ _).alloc (Nat.le_refl _) _
  have hsz : (w.alloc (.cells #[.int .i64 A, .bool d, v] 24)).heap.size = w.heap.size + 1 := by simp
  have HT1 := Lib.hid (h.below c1)
  obtain ⟨⟨k0, k1⟩, kf⟩ := h.below c1
  have HP1 := Lib.hid (PlanAt.new w A d v 24)
  obtain ⟨q0, q1, q2⟩ := planAt_new w A d v 24
  have HV := Lib.hid (hv.below c1)
  have HL := Lib.hid h34
  have hBl := h.lt
  have d1 : decide (0 < A) = true := by rw [decide_eq_true_iff]; omega
  clear kf h hv hp h34 hA hA2
  go_enter Tryd.func26, Tryd.ntmps26
  go_wp2_with fail
  refine (fcheck_any A d _ L _ HV.out (by have := HL.out; omega)).mono ?_
  rw [HE.out]
  rintro e w1 ⟨rfl, b1⟩
  have c2 := c1.trans (b1.mono c1.size)
  have HT2 := Lib.hid (HT1.out.below b1)
  have HV2 := Lib.hid (HV.out.below b1)
  obtain ⟨⟨k0, k1⟩, kf⟩ := HT1.out.below b1
  have kf1 := kf 1
  have hs1 : w.heap.size + 1 ≤ w1.heap.size := by rw [← hsz]; exact b1.size
  have HP2 := Lib.hid (HP1.out.below b1)
  have HP3 : Hid (PlanAt (w1.setCell ⟨B, 1, none⟩ (.pointer none)) w.heap.size A d v) := HP2.out.other (by omega) _
  obtain ⟨⟨r0, r1, r2⟩, rf⟩ := HP3.out
  have HT3 : Hid (TimAt (w1.setCell ⟨B, 1, none⟩ (.pointer none)) B true none) := HT2.out.set none
  have HK : Hid (KeptBut B w (w1.setCell ⟨B, 1, none⟩ (.pointer none))) := (World.grownBy.trans (below_grow c2 (some B)) (grownBy_set w1 ⟨B, 1, none⟩ (.pointer none)))
  have hv3 : IntsAt (w1.setCell ⟨B, 1, none⟩ (.pointer none)) v L := by
    obtain ⟨p, c, hv, hc, hp⟩ := HV2.out
    refine ⟨p, c, hv, hc, fun h0 => ?_⟩
    obtain ⟨b, o, h1, h2⟩ := hp h0
    refine ⟨b, o, h1, fun i hi => ?_⟩
    have hx := h2 i hi
    have hne : (⟨B, 1, none⟩ : Addr) ≠ ⟨b, o + i, none⟩ := by
      intro he
      rw [← he, k1] at hx
      cases hx
    rw [World.cell?_setCell_other (h := hne)]
    exact hx
  have HV3 := Lib.hid hv3
  clear q0 q1 q2 b1 c1 kf rf hv3 HT2 HP2
  go_wp2_with fail
  refine (fclone_any A d v L _ HV3.out (by have := HL.out; omega)).mono ?_
  rintro e w4 ⟨v', rfl, hn, b1⟩
  obtain ⟨p', c', rfl⟩ := ownsRow_slice hn
  have hs3 : (w1.setCell ⟨B, 1, none⟩ (.pointer none)).heap.size = w1.heap.size := World.size_setCell _ _ _
  rw [hs3] at hn
  have HT4 := Lib.hid (HT3.out.below b1)
  have hp4 := HP3.out.below b1
  obtain ⟨⟨r0, r1, r2⟩, rf⟩ := hp4
  have rf0 := rf 0
  have rf1 := rf 1
  have rf2 := rf 2
  have HP5 : Hid (PlanAt (((w4.setCell ⟨w.heap.size, 0, none⟩ (.int .i64 A)).setCell ⟨w.heap.size, 1, none⟩ (.bool d)).setCell ⟨w.heap.size, 2, none⟩ (.slice p' L.length c')) w.heap.size A d (.slice p' L.length c')) := PlanAt.set ⟨⟨r0, r1, r2⟩, rf⟩ A d (.slice p' L.length c')
  have ht5 : TimAt (((w4.setCell ⟨w.heap.size, 0, none⟩ (.int .i64 A)).setCell ⟨w.heap.size, 1, none⟩ (.bool d)).setCell ⟨w.heap.size, 2, none⟩ (.slice p' L.length c')) B true none := ((HT4.out.other (by omega) _).other (by omega) _).other (by omega) _
  have HT5 := Lib.hid ht5
  obtain ⟨⟨t0, t1⟩, tf⟩ := ht5
  have tf1 := tf 1
  have HN5 : Hid (IntsNew w1.heap.size (((w4.setCell ⟨w.heap.size, 0, none⟩ (.int .i64 A)).setCell ⟨w.heap.size, 1, none⟩ (.bool d)).setCell ⟨w.heap.size, 2, none⟩ (.slice p' L.length c')) (.slice p' L.length c') L) :=
    ((hn.set ⟨w.heap.size, 0, none⟩ _ (by simp; omega)).set ⟨w.heap.size, 1, none⟩ _ (by simp; omega)).set ⟨w.heap.size, 2, none⟩ _ (by simp; omega)
  have HK4 : Hid (KeptBut B w w4) := World.grownBy.trans HK.out (below_grow b1 (some B))
  have HK5 : Hid (KeptBut B w (((w4.setCell ⟨w.heap.size, 0, none⟩ (.int .i64 A)).setCell ⟨w.heap.size, 1, none⟩ (.bool d)).setCell ⟨w.heap.size, 2, none⟩ (.slice p' L.length c'))) := by
    have h4 := HK4.out
    refine ⟨h4.os, h4.tape, h4.output, by rw [World.size_setCell, World.size_setCell, World.size_setCell]; exact h4.size, fun k hk hr => ?_⟩
    rw [Below.heap_setCell _ _ _ _ (by simp; omega), Below.heap_setCell _ _ _ _ (by simp; omega), Below.heap_setCell _ _ _ _ (by simp; omega)]
    exact h4.block k hk hr
  have hs5 : (((w4.setCell ⟨w.heap.size, 0, none⟩ (.int .i64 A)).setCell ⟨w.heap.size, 1, none⟩ (.bool d)).setCell ⟨w.heap.size, 2, none⟩ (.slice p' L.length c')).heap.size = w4.heap.size := by rw [World.size_setCell, World.size_setCell, World.size_setCell]
  clear rf tf b1 hn HT4 HK4 k0 k1
  go_wp2_with fail
  go_ret
  refine ⟨rfl, World.grownBy.trans HK5.out (grownBy_set _ ⟨B, 1, none⟩ _), HT5.out.set _, _, HP5.out.other (by omega) _, ?_⟩
  exact kept_own (B := B) (HN5.out.base hs1) (grownBy_set _ ⟨B, 1, none⟩ _) (by omega)
theorem copy_nil (w : World) :
    Calls Tryd.prog 37 #[.pointer none] w fun e w' => e = .returned (.pointer none) ∧ w = w' := by
  go_enter Tryd.func37, Tryd.ntmps37
  go_wp2_with fail
  go_ret
  exact ⟨rfl, rfl⟩
theorem copy_unmade (B : Nat) (p : Option Addr) (w : World) (h : TimAt w B false p) :
    Calls Tryd.prog 37 #[.pointer (some ⟨B, 0, none⟩)] w fun e w' => e = .returned (.pointer none) ∧ w = w' := by
  obtain ⟨⟨k0, k1⟩, kf⟩ := h
  clear kf
  go_enter Tryd.func37, Tryd.ntmps37
  go_wp2_with fail
  go_ret
  exact ⟨rfl, rfl⟩
set_option maxHeartbeats 1000000 in
theorem copy_no (B : Nat) (w : World) (h : TimAt w B true none) :
    Calls Tryd.prog 37 #[.pointer (some ⟨B, 0, none⟩)] w fun e w' => e = .returned (.pointer (some ⟨w.heap.size, 0, none⟩)) ∧ Below w.heap.size w w' ∧ TimAt w' w.heap.size true none := by
  have c1 : Below w.heap.size w (w.alloc (.cells #[.bool true, .pointer none] 63)) := (Below.refl _ _).alloc (Nat.le_refl _) _
  have HT := Lib.hid (h.below c1)
  have HN := Lib.hid (TimAt.new w true none 63)
  obtain ⟨⟨k0, k1⟩, kf⟩ := h
  clear kf
  go_enter Tryd.func37, Tryd.ntmps37
  go_wp2_with fail
  refine (new_any _).mono ?_
  rintro e w1 ⟨rfl, rfl⟩
  go_wp2_with fail
  refine (plan_no B true _ HT.out).mono ?_
  rintro e w2 ⟨rfl, b1⟩
  have c2 := c1.trans (b1.mono c1.size)
  have HN2 := Lib.hid (HN.out.below b1)
  have c3 := c2.alloc c2.size (.cells #[.int .i64 0, .bool false, .slice none 0 0] 24)
  have HN3 := Lib.hid (HN2.out.below ((Below.refl _ _).alloc (Nat.le_refl _) (.cells #[.int .i64 0, .bool false, .slice none 0 0] 24)))
  clear b1 c1 c2 k0 k1
  go_wp2_with fail
  go_ret
  exact ⟨rfl, c3, HN3.out⟩
set_option maxRecDepth 100000 in
set_option maxHeartbeats 2000000 in
theorem copy_some (B C : Nat) (A : Int) (d : Bool) (v : Value) (L : List Int) (w : World) (h : TimAt w B true (some ⟨C, 0, none⟩)) (hp : PlanAt w C A d v) (hv : IntsAt w v L) (hl : L.length ≤ 1099511627776) :
    Calls Tryd.prog 37 #[.pointer (some ⟨B, 0, none⟩)] w fun e w' => e = .returned (.pointer (some ⟨w.heap.size, 0, none⟩)) ∧ Below w.heap.size w w' ∧ ∃ C' v', w.heap.size < C' ∧ TimAt w' w.heap.size true (some ⟨C', 0, none⟩) ∧ PlanAt w' C' A d v' ∧ IntsNew (w.heap.size + 1) w' v' L ∧ v'.ownBlock ≠ some C' := by
  have c1 : Below w.heap.size w (w.alloc (.cells #[.bool true, .pointer none] 63)) := (Below.refl _ _).alloc (Nat.le_refl _) _
  have hsz : (w.alloc (.cells #[.bool true, .pointer none] 63)).heap.size = w.heap.size + 1 := by simp
  have HT := Lib.hid (h.below c1)
  have HP := Lib.hid (hp.below c1)
  have HV := Lib.hid (hv.below c1)
  have HN := Lib.hid (TimAt.new w true none 63)
  have HL := Lib.hid hl
  obtain ⟨⟨k0, k1⟩, kf⟩ := h
  clear kf hp hv hl
  go_enter Tryd.func37, Tryd.ntmps37
  go_wp2_with fail
  refine (new_any _).mono ?_
  rintro e w1 ⟨rfl, rfl⟩
  go_wp2_with fail
  refine (plan_some B C true A d v L _ HT.out HP.out HV.out HL.out).mono ?_
  rintro e w2 ⟨v', rfl, hn, b1⟩
  obtain ⟨p', c', rfl⟩ := ownsRow_slice hn
  rw [hsz] at hn
  have hs2 : w.heap.size + 1 ≤ w2.heap.size := by rw [← hsz]; exact b1.size
  have c2 := c1.trans (b1.mono c1.size)
  have HN2 := Lib.hid (HN.out.below b1)
  have c3 := c2.alloc c2.size (.cells #[.int .i64 A, .bool d, .slice p' L.length c'] 24)
  have a3 := (Below.refl w2.heap.size w2).alloc (Nat.le_refl _) (.cells #[.int .i64 A, .bool d, .slice p' L.length c'] 24)
  have ht3 := HN2.out.below a3
  have HN3 := Lib.hid ht3
  obtain ⟨⟨t0, t1⟩, tf⟩ := ht3
  have tf1 := tf 1
  have HP3 := Lib.hid (PlanAt.new w2 A d (.slice p' L.length c') 24)
  have HI3 := Lib.hid (IntsNew.below hn a3)
  have hob : Hid ((Value.slice p' L.length c').ownBlock ≠ some w2.heap.size) := fun e => by have := (World.ownsRow.lt hn _ e).2; omega
  clear b1 c1 c2 k0 k1 tf a3 hn
  go_wp2_with fail
  go_ret
  refine ⟨rfl, below_set c3 _ (Nat.le_refl _) 1 _, w2.heap.size, _, by omega, HN3.out.set _, HP3.out.other (by omega) _, ?_, hob.out⟩
  exact HI3.out.set ⟨w.heap.size, 1, none⟩ _ (by simp)
end Go.Proofs.YtoceeegdbnigeaaDoor
