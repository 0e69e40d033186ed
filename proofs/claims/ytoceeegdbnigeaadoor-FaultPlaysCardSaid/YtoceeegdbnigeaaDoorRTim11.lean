/-
  The reference's timers: what each call does to memory.
  Conditions: none.
-/
import Derived.Test.YtoceeegdbnigeaaDoorWorks11
import Derived.Deep.RegionLaw
import Derived.Deep.AppendLies
set_option linter.unusedVariables false
namespace Go.Proofs.YtoceeegdbnigeaaDoor
open Go Go.RowKit

/-- A timer of the reference in memory. -/
def RAt (w : World) (B : Nat) (m : Bool) (R : Int) (d : Bool) (v : Value) : Prop := (w.cell? ⟨B, 0, none⟩ = some (.bool m) ∧ w.cell? ⟨B, 1, none⟩ = some (.int .i64 R) ∧ w.cell? ⟨B, 2, none⟩ = some (.bool d) ∧ w.cell? ⟨B, 3, none⟩ = some v) ∧ ∀ j, w.frozen? ⟨B, j, none⟩ = false
theorem RAt.new (w : World) (m : Bool) (R : Int) (d : Bool) (v : Value) (t : TypeId) : RAt (w.alloc (.cells #[.bool m, .int .i64 R, .bool d, v] t)) w.heap.size m R d v :=
  ⟨⟨new_cell _ _ 0 _ rfl, new_cell _ _ 1 _ rfl, new_cell _ _ 2 _ rfl, new_cell _ _ 3 _ rfl⟩, fun j => new_free _ _ j⟩
theorem RAt.lt {w : World} {B : Nat} {m : Bool} {R : Int} {d : Bool} {v : Value} (h : RAt w B m R d v) : B < w.heap.size := World.block_lt_of_cell? w _ h.1.1
theorem RAt.block {w w' : World} {B : Nat} {m : Bool} {R : Int} {d : Bool} {v : Value} (h : RAt w B m R d v) (hb : w'.heap[B]? = w.heap[B]?) : RAt w' B m R d v := by
  obtain ⟨⟨h0, h1, h2, h3⟩, h4⟩ := h
  exact ⟨⟨(World.cell?_of_block hb).trans h0, (World.cell?_of_block hb).trans h1, (World.cell?_of_block hb).trans h2, (World.cell?_of_block hb).trans h3⟩, fun j => (World.frozen?_of_block hb).trans (h4 j)⟩
theorem RAt.below {w w' : World} {B : Nat} {m : Bool} {R : Int} {d : Bool} {v : Value} (h : RAt w B m R d v) (hb : Below w.heap.size w w') : RAt w' B m R d v := h.block (hb.block B h.lt)
theorem RAt.set1 {w : World} {B : Nat} {m : Bool} {R : Int} {d : Bool} {v : Value} (h : RAt w B m R d v) (R' : Int) : RAt (w.setCell ⟨B, 1, none⟩ (.int .i64 R')) B m R' d v := by
  obtain ⟨⟨h0, h1, h2, h3⟩, h4⟩ := h
  have n0 : (⟨B, 0, none⟩ : Addr) ≠ ⟨B, 1, none⟩ := by intro he; injection he with e1 e2; omega
  have n2 : (⟨B, 2, none⟩ : Addr) ≠ ⟨B, 1, none⟩ := by intro he; injection he with e1 e2; omega
  have n3 : (⟨B, 3, none⟩ : Addr) ≠ ⟨B, 1, none⟩ := by intro he; injection he with e1 e2; omega
  exact ⟨⟨by rw [World.cell?_setCell_other (h := Ne.symm n0)]; exact h0, World.cell?_setCell_same w ⟨B, 1, none⟩ _ h1, by rw [World.cell?_setCell_other (h := Ne.symm n2)]; exact h2, by rw [World.cell?_setCell_other (h := Ne.symm n3)]; exact h3⟩, fun j => by rw [World.frozen?_setCell]; exact h4 j⟩
theorem RAt.set2 {w : World} {B : Nat} {m : Bool} {R : Int} {d : Bool} {v : Value} (h : RAt w B m R d v) (d' : Bool) : RAt (w.setCell ⟨B, 2, none⟩ (.bool d')) B m R d' v := by
  obtain ⟨⟨h0, h1, h2, h3⟩, h4⟩ := h
  have n0 : (⟨B, 0, none⟩ : Addr) ≠ ⟨B, 2, none⟩ := by intro he; injection he with e1 e2; omega
  have n1 : (⟨B, 1, none⟩ : Addr) ≠ ⟨B, 2, none⟩ := by intro he; injection he with e1 e2; omega
  have n3 : (⟨B, 3, none⟩ : Addr) ≠ ⟨B, 2, none⟩ := by intro he; injection he with e1 e2; omega
  exact ⟨⟨by rw [World.cell?_setCell_other (h := Ne.symm n0)]; exact h0, by rw [World.cell?_setCell_other (h := Ne.symm n1)]; exact h1, World.cell?_setCell_same w ⟨B, 2, none⟩ _ h2, by rw [World.cell?_setCell_other (h := Ne.symm n3)]; exact h3⟩, fun j => by rw [World.frozen?_setCell]; exact h4 j⟩
theorem RAt.set3 {w : World} {B : Nat} {m : Bool} {R : Int} {d : Bool} {v : Value} (h : RAt w B m R d v) (v' : Value) : RAt (w.setCell ⟨B, 3, none⟩ v') B m R d v' := by
  obtain ⟨⟨h0, h1, h2, h3⟩, h4⟩ := h
  have n0 : (⟨B, 0, none⟩ : Addr) ≠ ⟨B, 3, none⟩ := by intro he; injection he with e1 e2; omega
  have n1 : (⟨B, 1, none⟩ : Addr) ≠ ⟨B, 3, none⟩ := by intro he; injection he with e1 e2; omega
  have n2 : (⟨B, 2, none⟩ : Addr) ≠ ⟨B, 3, none⟩ := by intro he; injection he with e1 e2; omega
  exact ⟨⟨by rw [World.cell?_setCell_other (h := Ne.symm n0)]; exact h0, by rw [World.cell?_setCell_other (h := Ne.symm n1)]; exact h1, by rw [World.cell?_setCell_other (h := Ne.symm n2)]; exact h2, World.cell?_setCell_same w ⟨B, 3, none⟩ _ h3⟩, fun j => by rw [World.frozen?_setCell]; exact h4 j⟩
theorem rnew_any (w : World) :
    Calls Tryd.prog 32 #[] w fun e w' => e = .returned (.pointer (some ⟨w.heap.size, 0, none⟩)) ∧ w' = w.alloc (.cells #[.bool true, .int .i64 0, .bool false, .slice none 0 0] 81) := by
  go_enter Tryd.func32, Tryd.ntmps32
  go_wp2_with fail
  go_ret
  exact ⟨rfl, rfl⟩
theorem valid_nil (w : World) :
    Calls Tryd.prog 52 #[.pointer none] w fun e w' => e = .returned (.bool false) ∧ w = w' := by
  go_enter Tryd.func52, Tryd.ntmps52
  go_wp2_with fail
  go_ret
  exact ⟨rfl, rfl⟩
theorem valid_any (B : Nat) (R : Int) (d : Bool) (v : Value) (w : World) (h : RAt w B true R d v) :
    Calls Tryd.prog 52 #[.pointer (some ⟨B, 0, none⟩)] w fun e w' => e = .returned (.bool true) ∧ w = w' := by
  obtain ⟨⟨h0, h1, h2, h3⟩, h4⟩ := h
  clear h4
  go_enter Tryd.func52, Tryd.ntmps52
  go_wp2_with fail
  go_ret
  exact ⟨rfl, rfl⟩
theorem rtick_zero (B : Nat) (d : Bool) (v : Value) (w : World) (h : RAt w B true 0 d v) :
    Calls Tryd.prog 33 #[.pointer (some ⟨B, 0, none⟩)] w fun e w' => e = .returned (.bool false) ∧ w = w' := by
  have H := Lib.hid h
  obtain ⟨⟨h0, h1, h2, h3⟩, h4⟩ := h
  clear h4
  go_enter Tryd.func33, Tryd.ntmps33
  go_wp2_with fail
  refine (valid_any B 0 d v _ H.out).mono ?_
  rintro e w1 ⟨rfl, rfl⟩
  go_wp2_with fail
  go_ret
  exact ⟨rfl, rfl⟩
theorem rtick_some (B : Nat) (R : Int) (d : Bool) (v : Value) (w : World) (h : RAt w B true R d v) (hR : 1 ≤ R) (hR2 : R ≤ 1000000) :
    Calls Tryd.prog 33 #[.pointer (some ⟨B, 0, none⟩)] w fun e w' => e = .returned (.bool (decide (R = 1))) ∧ w' = w.setCell ⟨B, 1, none⟩ (.int .i64 (R - 1)) := by
  have H := Lib.hid h
  obtain ⟨⟨g0, g1, g2, g3⟩, g4⟩ := h.set1 (R - 1)
  obtain ⟨⟨h0, h1, h2, h3⟩, h4⟩ := h
  have f1 := h4 1
  have d0 : (R == 0) = false := by rw [beq_eq_false_iff_ne]; omega
  have wr : IntKind.i64.wrap (R - 1) = R - 1 := IntWalk.i64_in _ (by omega)
  have hE : Hid ((R - 1 == 0) = decide (R = 1)) := by
    show _ = _
    by_cases h : R = 1
    · rw [h]; rfl
    · rw [decide_eq_false h, beq_eq_false_iff_ne]; omega
  clear h4 g4 hR hR2
  go_enter Tryd.func33, Tryd.ntmps33
  go_wp2_with fail
  refine (valid_any B R d v _ H.out).mono ?_
  rintro e w1 ⟨rfl, rfl⟩
  go_wp2_with fail
  go_ret
  exact ⟨by rw [← hE.out]; rfl, rfl⟩
theorem rdisarm_any (B : Nat) (R : Int) (d : Bool) (v : Value) (w : World) (h : RAt w B true R d v) (hv : ∃ p n c, v = .slice p n c) :
    Calls Tryd.prog 36 #[.pointer (some ⟨B, 0, none⟩)] w fun e w' => e = .returned (.tuple #[]) ∧ w' = ((w.setCell ⟨B, 1, none⟩ (.int .i64 0)).setCell ⟨B, 2, none⟩ (.bool false)).setCell ⟨B, 3, none⟩ (.slice none 0 0) := by
  have H := Lib.hid h
  obtain ⟨⟨h0, h1, h2, h3⟩, h4⟩ := h
  have f1 := h4 1
  have f2 := h4 2
  have f3 := h4 3
  obtain ⟨p, n, c, rfl⟩ := hv
  clear h4
  go_enter Tryd.func36, Tryd.ntmps36
  go_wp2_with fail
  refine (valid_any B R d _ _ H.out).mono ?_
  rintro e w1 ⟨rfl, rfl⟩
  go_wp2_with fail
  go_end0
  exact ⟨rfl, rfl⟩
theorem rplan_nil (w : World) :
    Calls Tryd.prog 39 #[.pointer none] w fun e w' => e = .returned (.tuple #[planV 0 false (.slice none 0 0), .bool false]) ∧ Below w.heap.size w w' := by
  have h0 := PlanAt.new w 0 false (.slice none 0 0) 24
  obtain ⟨⟨r0, r1, r2⟩, rf⟩ := h0
  have rf0 := rf 0
  have rf1 := rf 1
  have rf2 := rf 2
  clear rf
  go_enter Tryd.func39, Tryd.ntmps39
  go_wp2_with fail
  refine (valid_nil _).mono ?_
  rintro e w1 ⟨rfl, rfl⟩
  go_wp2_with fail
  refine bodyPost_ret (results_plan_slot rfl _ _ w.heap.size 0 false (.slice none 0 0) (.bool false) (PlanAt.new w 0 false (.slice none 0 0) 24) rfl rfl) rfl ⟨rfl, (Below.refl _ _).alloc (Nat.le_refl _) _⟩
theorem rplan_zero (B : Nat) (d : Bool) (v : Value) (w : World) (h : RAt w B true 0 d v) :
    Calls Tryd.prog 39 #[.pointer (some ⟨B, 0, none⟩)] w fun e w' => e = .returned (.tuple #[planV 0 false (.slice none 0 0), .bool false]) ∧ Below w.heap.size w w' := by
  have a1 := (Below.refl w.heap.size w).alloc (Nat.le_refl _) (.cells #[.int .i64 0, .bool false, .slice none 0 0] 24)
  have H := Lib.hid (h.below a1)
  obtain ⟨⟨h0, h1, h2, h3⟩, h4⟩ := h.below a1
  obtain ⟨⟨r0, r1, r2⟩, rf⟩ := PlanAt.new w 0 false (.slice none 0 0) 24
  have rf0 := rf 0
  have rf1 := rf 1
  have rf2 := rf 2
  clear rf h4 h
  go_enter Tryd.func39, Tryd.ntmps39
  go_wp2_with fail
  refine (valid_any B 0 d v _ H.out).mono ?_
  rintro e w1 ⟨rfl, rfl⟩
  go_wp2_with fail
  refine bodyPost_ret (results_plan_slot rfl _ _ w.heap.size 0 false (.slice none 0 0) (.bool false) (PlanAt.new w 0 false (.slice none 0 0) 24) rfl rfl) rfl ⟨rfl, (Below.refl _ _).alloc (Nat.le_refl _) _⟩
theorem rplan_end {fn : Func} (hf : fn.results = #[.cell 2 24, .tmp 3]) (a : Act) {w w0 w4 A : World} {R : Int} {d : Bool} {q2 : Option Addr} {n2 : Nat} {L : List Int} (h2 : a.tmps.getD 2 undef = .pointer (some ⟨w.heap.size, 0, none⟩)) (h3 : a.tmps.getD 3 undef = .bool true) (hd : a.defers = [])
    (a1 : Below w.heap.size w w0) (a2 : Below w0.heap.size w0 A) (hl : w.heap.size < w0.heap.size) (hown : w4.ownsRow w0.heap.size 3 1 (.slice q2 (0 + L.length) n2) (0 + L.length) ([] ++ L.map (Value.int .i64))) (hgrow : A.grownBy w4 (Value.slice (some ⟨w0.heap.size, 0, none⟩) 0 0).ownBlock) (hp : PlanAt w4 w.heap.size 0 false (.slice none 0 0)) :
    bodyPost Tryd.prog fn (fun e w' => ∃ v', e = .returned (.tuple #[planV R d v', .bool true]) ∧ IntsNew w.heap.size w' v' L ∧ Below w.heap.size w w') Exit.ret a (((w4.setCell ⟨w.heap.size, 0, none⟩ (.int .i64 R)).setCell ⟨w.heap.size, 1, none⟩ (.bool d)).setCell ⟨w.heap.size, 2, none⟩ (.slice q2 L.length n2)) := by
  have hn : IntsNew w0.heap.size w4 (.slice q2 L.length n2) L := by
    show World.ownsRow _ _ _ _ _ _ _
    rw [Nat.zero_add, List.nil_append] at hown
    exact hown
  have c4 : Below w.heap.size w w4 := (a1.trans (a2.mono a1.size)).grown hgrow (Nat.le_trans a1.size a2.size) fun k hk => by
    simp [Value.ownBlock] at hk
    omega
  refine bodyPost_ret (results_plan_slot hf _ _ w.heap.size R d (.slice q2 L.length n2) (.bool true) (hp.set R d (.slice q2 L.length n2)) h2 h3) hd ⟨_, rfl, ?_, ?_⟩
  · exact (((hn.set ⟨w.heap.size, 0, none⟩ _ hl).set ⟨w.heap.size, 1, none⟩ _ hl).set ⟨w.heap.size, 2, none⟩ _ hl).base (Nat.le_of_lt hl)
  · exact below_set (below_set (below_set c4 _ (Nat.le_refl _) 0 _) _ (Nat.le_refl _) 1 _) _ (Nat.le_refl _) 2 _
set_option maxRecDepth 100000 in
set_option maxHeartbeats 4000000 in
theorem rplan_some (B : Nat) (R : Int) (d : Bool) (v : Value) (L : List Int) (w : World) (h : RAt w B true R d v) (hR : R ≠ 0) (hv : IntsAt w v L) (hl : L.length ≤ 100000) :
    Calls Tryd.prog 39 #[.pointer (some ⟨B, 0, none⟩)] w fun e w' => ∃ v', e = .returned (.tuple #[planV R d v', .bool true]) ∧ IntsNew w.heap.size w' v' L ∧ Below w.heap.size w w' := by
  have a1 := (Below.refl w.heap.size w).alloc (Nat.le_refl _) (.cells #[.int .i64 0, .bool false, .slice none 0 0] 24)
  have H := Lib.hid (h.below a1)
  have HV := Lib.hid (hv.below a1)
  obtain ⟨⟨h0, h1, h2, h3⟩, h4⟩ := h.below a1
  have HP0 := Lib.hid (PlanAt.new w 0 false (.slice none 0 0) 24)
  obtain ⟨⟨r0, r1, r2⟩, rf⟩ := PlanAt.new w 0 false (.slice none 0 0) 24
  have rf0 := rf 0
  have rf1 := rf 1
  have rf2 := rf 2
  have d0 : (R == 0) = false := by rw [beq_eq_false_iff_ne]; exact hR
  obtain ⟨i0, hi0, hz0, hz1, hz2⟩ := info_parts infoInt
  have HL := Lib.hid hl
  obtain ⟨p, c, rfl, _, _⟩ := hv
  clear rf h4 h hR hl
  go_enter Tryd.func39, Tryd.ntmps39
  go_wp2_with fail
  refine (valid_any B R d _ _ H.out).mono ?_
  rintro e w1 ⟨rfl, rfl⟩
  go_wp2_with fail
  generalize (w.alloc (.cells #[.int .i64 0, .bool false, .slice none 0 0] 24)) = w0 at *
  have a2 := ((Below.refl w0.heap.size w0).alloc (Nat.le_refl _) (.cells #[] 3)).drew
  have e1 : (w0.alloc (.cells #[] 3)).drew.cell? ⟨B, 1, none⟩ = some (.int .i64 R) := cell_kept h1 a2
  have e2 : (w0.alloc (.cells #[] 3)).drew.cell? ⟨B, 2, none⟩ = some (.bool d) := cell_kept h2 a2
  have e3 : (w0.alloc (.cells #[] 3)).drew.cell? ⟨B, 3, none⟩ = some (.slice p L.length c) := cell_kept h3 a2
  have HOW : Hid ((w0.alloc (.cells #[] 3)).drew.ownsRow w0.heap.size 3 1 (.slice (some ⟨w0.heap.size, 0, none⟩) 0 0) 0 []) := ownsI_built w0 w0.heap.size (Nat.le_refl _) 3
  have HVe := Lib.hid (HV.out.below a2)
  have HBl : Hid (B < ((w0.alloc (.cells #[] 3)).drew).heap.size) := World.block_lt_of_cell? _ _ e1
  have HBn : Hid (some B ≠ (Value.slice (some ⟨w0.heap.size, 0, none⟩) 0 0).ownBlock) := fun e => by
    have := H.out.lt
    simp [Value.ownBlock] at e
    omega
  have HPe : Hid (PlanAt ((w0.alloc (.cells #[] 3)).drew) w.heap.size 0 false (.slice none 0 0)) := HP0.out.below a2
  have HPn : Hid (some w.heap.size ≠ (Value.slice (some ⟨w0.heap.size, 0, none⟩) 0 0).ownBlock) := fun e => by
    have := HP0.out.lt
    simp [Value.ownBlock] at e
    omega
  go_region_law (refine step_append_ints _ rfl (.tmp 26) (.tmp 31) 22 rfl w0.heap.size 3 i0 (.int .i64 0) Tryd.underlying22 hi0 hz0 hz1 hz2 rfl _ 0 [] rfl HOW.out _ L rfl HVe.out (by have := HL.out; omega) (by simp) ?_; intro v2 w4 hown hgrow; obtain ⟨q2, n2, rfl⟩ := ownsRow_slice hown; have hbB := hgrow.block B HBl.out HBn.out; have g1 := (World.cell?_of_block hbB).trans e1; have g2 := (World.cell?_of_block hbB).trans e2; have g3 := (World.cell?_of_block hbB).trans e3; have HPg := Lib.hid (HPe.out.grown hgrow HPn.out); obtain ⟨⟨s0, s1, s2⟩, sf⟩ := HPe.out.grown hgrow HPn.out; have sf0 := sf 0; have sf1 := sf 1; have sf2 := sf 2)
  all_goals
    go_wp2_with fail
    exact rplan_end (fn := Tryd.f39) rfl _ rfl rfl rfl (A := .drew (.alloc w0 (.cells #[] 3))) a1 a2 HP0.out.lt hown hgrow HPg.out
end Go.Proofs.YtoceeegdbnigeaaDoor
