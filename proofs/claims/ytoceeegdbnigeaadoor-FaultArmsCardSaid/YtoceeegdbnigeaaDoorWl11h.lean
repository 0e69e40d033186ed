/-
  FaultArms: the walk.
  Conditions: the library's tables and variables lie in the world.
-/
import Derived.Test.YtoceeegdbnigeaaDoorWl11a
import Derived.Test.YtoceeegdbnigeaaDoorMade11
import Derived.Test.YtoceeegdbnigeaaDoorSame11
import Derived.Test.YtoceeegdbnigeaaDoorLit11
import Derived.Test.YtoceeegdbnigeaaDoorTimS11
import Derived.Deep.CutRange
import Derived.BigRegion
import Derived.Deep.RegionWith
set_option linter.unusedVariables false
namespace Go.Proofs.YtoceeegdbnigeaaDoor
open Go Go.RowKit

theorem TimS.kept {w w' : World} {B C : Nat} {R : Int} {d : Bool} {K : List Int} (h : TimS w B R d K) (hk : KeptBut C w w') (hlt : C < B) : TimS w' B R d K := by
  rcases h with ⟨h1, h2, D, v, h3, h4, h5, h6, h7⟩ | ⟨h1, h2⟩
  · exact Or.inl ⟨h1, h2, D, v, h3, h4.kept hk (by omega), h5.kept hk (by omega), kept_own h6 hk (by omega), h7⟩
  · exact Or.inr ⟨h1, h2.kept hk (by omega)⟩
theorem copy_S (B : Nat) (R : Int) (d : Bool) (K : List Int) (w : World) (h : TimS w B R d K) (hl : K.length ≤ 34) :
    Calls Tryd.prog 37 #[.pointer (some ⟨B, 0, none⟩)] w fun e w' => e = .returned (.pointer (some ⟨w.heap.size, 0, none⟩)) ∧ Below w.heap.size w w' ∧ TimS w' w.heap.size R d K := by
  rcases h with ⟨h1, h2, C, v, h3, h4, h5, h6, h7⟩ | ⟨h1, h2⟩
  · refine (copy_some B C R d v K w h4 h5 (IntsNew.at h6) (by omega)).mono ?_
    rintro e w' ⟨rfl, hb, C', v', g1, g2, g3, g4, g5⟩
    exact ⟨rfl, hb, Or.inl ⟨h1, h2, C', v', g1, g2, g3, g4, g5⟩⟩
  · refine (copy_no B w h2).mono ?_
    rintro e w' ⟨rfl, hb, ht⟩
    exact ⟨rfl, hb, Or.inr ⟨h1, ht⟩⟩
def zero35 : Array Value := Array.replicate 35 (.int .i64 0)
theorem make35 (w : World) : (Instr.makeSlice 22 (.int .i64 35) (.int .i64 35)).run Tryd.prog w = .ok (.slice (some ⟨w.heap.size, 0, none⟩) 35 35) (w.alloc (.cells zero35 3)) := by
  obtain ⟨i0, hi, hz0, hz1, hz2⟩ := info_parts infoInt
  have h := run_make (P := Tryd.prog) w 22 3 i0 (.int .i64 0) Tryd.underlying22 hi hz0 .i64 .i64 35 35 (by decide) (by decide) (by rw [hz2]; decide) (by decide)
  rw [hz1, show madeCells (Value.int .i64 0).cells (Int.toNat 35 * 1) = zero35 by kernel_rfl] at h
  exact h
/-- The plans that are refused. -/
def badsW (W : World) (b : Nat) : World := (((((W.alloc (.cells #[.int .i64 0] 3)).alloc (.cells #[.int .i64 0] 3)).alloc (.cells #[.int .i64 (-1)] 3)).alloc (.cells #[.int .i64 0, .int .i64 8193] 3)).alloc (.cells zero35 3)).alloc (.cells #[.int .i64 0, .bool false, .slice none 0 0, .int .i64 (-1), .bool false, .slice (some ⟨b, 0, none⟩) 1 1, .int .i64 1000001, .bool false, .slice (some ⟨b + 1, 0, none⟩) 1 1, .int .i64 0, .bool false, .slice (some ⟨b + 1 + 1, 0, none⟩) 1 1, .int .i64 0, .bool false, .slice (some ⟨b + 1 + 1 + 1, 0, none⟩) 2 2, .int .i64 0, .bool false, .slice (some ⟨b + 1 + 1 + 1 + 1, 0, none⟩) 35 35] 24)
theorem ints_list (W : World) (L : List Int) (t : TypeId) (cs : Array Value) (hc : cs = (L.map (Value.int .i64)).toArray) (b : Nat) (hb : W.heap.size = b) : IntsAt (W.alloc (.cells cs t)) (.slice (some ⟨b, 0, none⟩) L.length L.length) L := by
  subst hb hc
  refine ⟨_, L.length, rfl, Nat.le_refl _, fun _ => ⟨W.heap.size, 0, rfl, fun i hi => ?_⟩⟩
  rw [Nat.zero_add]
  refine new_cell _ _ i _ ?_
  rw [List.getElem?_toArray, List.getElem?_map, List.getD, List.getElem?_eq_getElem hi]
  rfl
theorem zero35_eq : zero35 = ((List.replicate 35 (0 : Int)).map (Value.int .i64)).toArray := by kernel_rfl
theorem bads (W : World) (b : Nat) (hb : W.heap.size = b) : Below W.heap.size W (badsW W b) ∧ ∀ i : Nat, i < 6 → ∃ (A : Int) (L : List Int) (p : Option Addr) (c : Nat), planOK A L = false ∧ L.length ≤ 35 ∧ (badsW W b).cell? ⟨b + 1 + 1 + 1 + 1 + 1, i * 3, none⟩ = some (.int .i64 A) ∧ (badsW W b).cell? ⟨b + 1 + 1 + 1 + 1 + 1, i * 3 + 1, none⟩ = some (.bool false) ∧ (badsW W b).cell? ⟨b + 1 + 1 + 1 + 1 + 1, i * 3 + 2, none⟩ = some (.slice p L.length c) ∧ IntsAt (badsW W b) (.slice p L.length c) L := by
  have g1 : (W.alloc (.cells #[.int .i64 0] 3)).heap.size = b + 1 := by rw [World.size_alloc, hb]
  obtain ⟨W1, hW1⟩ : ∃ W1, W.alloc (.cells #[.int .i64 0] 3) = W1 := ⟨_, rfl⟩
  have f1 : IntsAt W1 (.slice (some ⟨b, 0, none⟩) 1 1) [0] := by rw [← hW1]; exact ints_list W [0] _ _ rfl b hb
  have e1 : Below W.heap.size W W1 := by rw [← hW1]; exact (Below.refl _ _).alloc (Nat.le_refl _) _
  rw [hW1] at g1
  have g2 : (W1.alloc (.cells #[.int .i64 0] 3)).heap.size = b + 1 + 1 := by rw [World.size_alloc, g1]
  obtain ⟨W2, hW2⟩ : ∃ W2, W1.alloc (.cells #[.int .i64 0] 3) = W2 := ⟨_, rfl⟩
  have f2 : IntsAt W2 (.slice (some ⟨b + 1, 0, none⟩) 1 1) [0] := by rw [← hW2]; exact ints_list W1 [0] _ _ rfl _ g1
  have e2 : Below W1.heap.size W1 W2 := by rw [← hW2]; exact (Below.refl _ _).alloc (Nat.le_refl _) _
  rw [hW2] at g2
  have g3 : (W2.alloc (.cells #[.int .i64 (-1)] 3)).heap.size = b + 1 + 1 + 1 := by rw [World.size_alloc, g2]
  obtain ⟨W3, hW3⟩ : ∃ W3, W2.alloc (.cells #[.int .i64 (-1)] 3) = W3 := ⟨_, rfl⟩
  have f3 : IntsAt W3 (.slice (some ⟨b + 1 + 1, 0, none⟩) 1 1) [-1] := by rw [← hW3]; exact ints_list W2 [-1] _ _ rfl _ g2
  have e3 : Below W2.heap.size W2 W3 := by rw [← hW3]; exact (Below.refl _ _).alloc (Nat.le_refl _) _
  rw [hW3] at g3
  have g4 : (W3.alloc (.cells #[.int .i64 0, .int .i64 8193] 3)).heap.size = b + 1 + 1 + 1 + 1 := by rw [World.size_alloc, g3]
  obtain ⟨W4, hW4⟩ : ∃ W4, W3.alloc (.cells #[.int .i64 0, .int .i64 8193] 3) = W4 := ⟨_, rfl⟩
  have f4 : IntsAt W4 (.slice (some ⟨b + 1 + 1 + 1, 0, none⟩) 2 2) [0, 8193] := by rw [← hW4]; exact ints_list W3 [0, 8193] _ _ rfl _ g3
  have e4 : Below W3.heap.size W3 W4 := by rw [← hW4]; exact (Below.refl _ _).alloc (Nat.le_refl _) _
  rw [hW4] at g4
  have g5 : (W4.alloc (.cells zero35 3)).heap.size = b + 1 + 1 + 1 + 1 + 1 := by rw [World.size_alloc, g4]
  obtain ⟨W5, hW5⟩ : ∃ W5, W4.alloc (.cells zero35 3) = W5 := ⟨_, rfl⟩
  have f5 : IntsAt W5 (.slice (some ⟨b + 1 + 1 + 1 + 1, 0, none⟩) 35 35) (List.replicate 35 0) := by rw [← hW5]; exact ints_list W4 (List.replicate 35 0) _ _ zero35_eq _ g4
  have e5 : Below W4.heap.size W4 W5 := by rw [← hW5]; exact (Below.refl _ _).alloc (Nat.le_refl _) _
  rw [hW5] at g5
  have hW : badsW W b = W5.alloc (.cells #[.int .i64 0, .bool false, .slice none 0 0, .int .i64 (-1), .bool false, .slice (some ⟨b, 0, none⟩) 1 1, .int .i64 1000001, .bool false, .slice (some ⟨b + 1, 0, none⟩) 1 1, .int .i64 0, .bool false, .slice (some ⟨b + 1 + 1, 0, none⟩) 1 1, .int .i64 0, .bool false, .slice (some ⟨b + 1 + 1 + 1, 0, none⟩) 2 2, .int .i64 0, .bool false, .slice (some ⟨b + 1 + 1 + 1 + 1, 0, none⟩) 35 35] 24) := by unfold badsW; rw [hW1, hW2, hW3, hW4, hW5]
  have e6 : Below W5.heap.size W5 (W5.alloc (.cells #[.int .i64 0, .bool false, .slice none 0 0, .int .i64 (-1), .bool false, .slice (some ⟨b, 0, none⟩) 1 1, .int .i64 1000001, .bool false, .slice (some ⟨b + 1, 0, none⟩) 1 1, .int .i64 0, .bool false, .slice (some ⟨b + 1 + 1, 0, none⟩) 1 1, .int .i64 0, .bool false, .slice (some ⟨b + 1 + 1 + 1, 0, none⟩) 2 2, .int .i64 0, .bool false, .slice (some ⟨b + 1 + 1 + 1 + 1, 0, none⟩) 35 35] 24)) := (Below.refl _ _).alloc (Nat.le_refl _) _
  have cell := fun (j : Nat) (x : Value) hx => new_cell (w := W5) #[.int .i64 0, .bool false, .slice none 0 0, .int .i64 (-1), .bool false, .slice (some ⟨b, 0, none⟩) 1 1, .int .i64 1000001, .bool false, .slice (some ⟨b + 1, 0, none⟩) 1 1, .int .i64 0, .bool false, .slice (some ⟨b + 1 + 1, 0, none⟩) 1 1, .int .i64 0, .bool false, .slice (some ⟨b + 1 + 1 + 1, 0, none⟩) 2 2, .int .i64 0, .bool false, .slice (some ⟨b + 1 + 1 + 1 + 1, 0, none⟩) 35 35] 24 j x hx
  rw [g5] at cell
  rw [hW]
  refine ⟨((((e1.trans (e2.mono e1.size)).trans (e3.mono (by omega))).trans (e4.mono (by omega))).trans (e5.mono (by omega))).trans (e6.mono (by omega)), fun i hi => ?_⟩
  match i, hi with
  | 0, _ => exact ⟨0, [], none, 0, by decide, by decide, cell 0 _ rfl, cell 1 _ rfl, cell 2 _ rfl, IntsAt.nil _ _ _⟩
  | 1, _ => exact ⟨-1, [0], _, _, by decide, by decide, cell 3 _ rfl, cell 4 _ rfl, cell 5 _ rfl, ((((f1.below e2).below e3).below e4).below e5).below e6⟩
  | 2, _ => exact ⟨1000001, [0], _, _, by decide, by decide, cell 6 _ rfl, cell 7 _ rfl, cell 8 _ rfl, (((f2.below e3).below e4).below e5).below e6⟩
  | 3, _ => exact ⟨0, [-1], _, _, by decide, by decide, cell 9 _ rfl, cell 10 _ rfl, cell 11 _ rfl, ((f3.below e4).below e5).below e6⟩
  | 4, _ => exact ⟨0, [0, 8193], _, _, by decide, by decide, cell 12 _ rfl, cell 13 _ rfl, cell 14 _ rfl, (f4.below e5).below e6⟩
  | 5, _ => exact ⟨0, List.replicate 35 0, _, _, by decide, by decide, cell 15 _ rfl, cell 16 _ rfl, cell 17 _ rfl, f5.below e6⟩
set_option maxRecDepth 100000 in
set_option maxHeartbeats 8000000 in
theorem walkFaultArms (a0 : Int) (ws0 : (Lit.int .u16 a0).wf = true) (a1 : Int) (ws1 : (Lit.int .u16 a1).wf = true) (v : Value) (L : List Nat) (a3 : Int) (ws3 : (Lit.int .u8 a3).wf = true) (m : Int) (w : World) (hv : U16At w v L) (ht : Tab w) (he : Errs w) (hm : w.cell? ⟨0, 0, none⟩ = some (.int .i64 m)) :
    Calls Tryd.prog 11 #[.int .u16 a0, .int .u16 a1, v, .int .u8 a3] w fun e w' => e = .returned (.bool true) ∧ Below w.heap.size w w' := by
  have HT := Lib.hid ht
  have HE := Lib.hid he
  have HM := Lib.hid hm
  have HV := Lib.hid hv
  have h0 := lit_u16 ws0
  have h1 := lit_u16 ws1
  have h3 : 0 ≤ a3 ∧ a3 < 256 := by
    have e1 : IntKind.u8.min = 0 := rfl
    have e2 : IntKind.u8.max = 255 := rfl
    have := ws3
    simp [Lit.wf, e1, e2] at this
    omega
  clear ht he hm ws0 ws1 ws3
  obtain ⟨x, hx⟩ : ∃ x, a0 % 300 = x := ⟨_, rfl⟩
  obtain ⟨y, hy⟩ : ∃ y, a1 % 300 = y := ⟨_, rfl⟩
  obtain ⟨A, hA⟩ : ∃ A, x + 1 = A := ⟨_, rfl⟩
  obtain ⟨Q, hQ⟩ : ∃ Q, y + 1 = Q := ⟨_, rfl⟩
  have hA0 : 1 ≤ A ∧ A ≤ 300 := by omega
  have hQ0 : 1 ≤ Q ∧ Q ≤ 300 := by omega
  have x1 : a0.tmod 300 = x := by rw [Int.tmod_eq_emod_of_nonneg h0.1]; exact hx
  have x2 : IntKind.u16.wrap x = x := by rw [IntKind.wrap_u16]; omega
  have x3 : IntKind.u32.wrap x = x := by rw [IntKind.wrap_u32]; omega
  have x4 : IntKind.u32.wrap (x + 1) = A := by rw [IntKind.wrap_u32]; omega
  have z1 : a1.tmod 300 = y := by rw [Int.tmod_eq_emod_of_nonneg h1.1]; exact hy
  have z2 : IntKind.u16.wrap y = y := by rw [IntKind.wrap_u16]; omega
  have z3 : IntKind.u32.wrap y = y := by rw [IntKind.wrap_u32]; omega
  have z4 : IntKind.u32.wrap (y + 1) = Q := by rw [IntKind.wrap_u32]; omega
  obtain ⟨n, hn⟩ : ∃ n : Nat, a3 % A = (n : Int) := ⟨(a3 % A).toNat, by have := Int.emod_nonneg a3 (show A ≠ 0 by omega); omega⟩
  have hnA : (n : Int) < A := by have := Int.emod_lt_of_pos a3 (show 0 < A by omega); omega
  have y1 : IntKind.i64.wrap a3 = a3 := IntWalk.i64_in _ (by omega)
  have y2 : a3.tmod A = (n : Int) := by rw [Int.tmod_eq_emod_of_nonneg h3.1]; exact hn
  have y3 : IntKind.i64.wrap (n : Int) = (n : Int) := IntWalk.i64_in _ (by omega)
  have y4 : ¬ (A = 0) := by omega
  have y5 : (A == 0) = false := by rw [beq_eq_false_iff_ne]; omega
  have hmA : madeA A = A := by unfold madeA; omega
  have hmQ : madeA Q = Q := by unfold madeA; omega
  have hok := made_ok (show 0 ≤ A by omega) L
  have hoq := made_ok (show 0 ≤ Q by omega) L
  have hmm := fun w hv => made_any A ⟨by omega, by omega⟩ true v L w hv
  have hmq := fun w hv => made_any Q ⟨by omega, by omega⟩ false v L w hv
  rw [hmA] at hok hmm
  rw [hmQ] at hoq hmq
  obtain ⟨K, hK⟩ : ∃ K, madeL L = K := ⟨_, rfl⟩
  rw [hK] at hok hoq hmm hmq
  have hk34 := (planOK_parts hok).2.2.2.1
  have HKl := Lib.hid hk34
  have HOK := Lib.hid hok
  have HOQ := Lib.hid hoq
  have HM0 := Lib.hid hmm
  have HM1 := Lib.hid hmq
  obtain ⟨nk, hnk⟩ : ∃ nk, K.length = nk := ⟨_, rfl⟩
  have HNn := Lib.hid hnk
  clear hv h0 h1 h3 hx hy hA hQ hn hmA hmQ hok hoq hmm hmq hK hk34
  go_enter Tryd.func11, Tryd.ntmps11
  go_wp2_with fail
  refine (HM0.out _ HV.out).mono ?_
  rintro e w1 ⟨p, c, rfl, hi, b1⟩
  rw [hnk] at hi ⊢
  have HI := Lib.hid hi
  have c1 := b1
  clear hi b1
  go_wp2_with fail
  refine (HM1.out _ (HV.out.below c1)).mono ?_
  rintro e w2 ⟨q, c', rfl, hj, b1⟩
  rw [hnk] at hj ⊢
  have HI2 := Lib.hid (IntsAt.below (IntsNew.at HI.out) b1)
  have HJ2 := Lib.hid (IntsNew.at hj)
  have c2 := c1.trans (b1.mono c1.size)
  clear hj b1 c1 hnk HI
  go_wp2_with fail
  have a3 : Below w2.heap.size w2 ((w2.alloc (.cells #[.int .i64 A, .bool true, .slice p nk c] 24)).alloc (.cells #[.int .i64 Q, .bool false, .slice q nk c'] 24)) := ((Below.refl _ _).alloc (Nat.le_refl _) _).alloc (by simp) _
  have a3' := (Below.refl (w2.alloc (.cells #[.int .i64 A, .bool true, .slice p nk c] 24)).heap.size (w2.alloc (.cells #[.int .i64 A, .bool true, .slice p nk c] 24))).alloc (Nat.le_refl _) (.cells #[.int .i64 Q, .bool false, .slice q nk c'] 24)
  obtain ⟨k0, k1, k2⟩ := planAt_new w2 A true (.slice p nk c) 24
  replace k0 := cell_kept k0 a3'
  replace k1 := cell_kept k1 a3'
  replace k2 := cell_kept k2 a3'
  have hl := planAt_new (w2.alloc (.cells #[.int .i64 A, .bool true, .slice p nk c] 24)) Q false (.slice q nk c') 24
  rw [show (w2.alloc (.cells #[.int .i64 A, .bool true, .slice p nk c] 24)).heap.size = w2.heap.size + 1 by simp] at hl
  obtain ⟨l0, l1, l2⟩ := hl
  have HI := Lib.hid (HI2.out.below a3)
  have HJ := Lib.hid (HJ2.out.below a3)
  have c3 := c2.trans (a3.mono c2.size)
  obtain ⟨P, hP⟩ : ∃ P, w2.heap.size = P := ⟨_, rfl⟩
  rw [hP] at k0 k1 k2 l0 l1 l2
  generalize ((w2.alloc (.cells #[.int .i64 A, .bool true, .slice p nk c] 24)).alloc (.cells #[.int .i64 Q, .bool false, .slice q nk c'] 24)) = w3 at *
  clear a3 a3' c2 HI2 HJ2
  refine (new_any _).mono ?_
  rintro e w4 ⟨rfl, rfl⟩
  rw [hP]
  clear hP
  have b4 : Below w3.heap.size w3 (w3.alloc (.cells #[.bool true, .pointer none] 63)) := (Below.refl _ _).alloc (Nat.le_refl _) _
  have HTa := Lib.hid (TimAt.new w3 true none 63)
  have HK0 := Lib.hid k0
  have HK1 := Lib.hid k1
  have HK2 := Lib.hid k2
  have HL0 := Lib.hid l0
  have HL1 := Lib.hid l1
  have HL2 := Lib.hid l2
  replace k0 := cell_kept k0 b4
  replace k1 := cell_kept k1 b4
  replace k2 := cell_kept k2 b4
  clear l0 l1 l2
  go_wp2_with fail
  refine (arm_S w3.heap.size none A true _ K _ HTa.out (HI.out.below b4) HOK.out).mono ?_
  rintro e w5 ⟨rfl, hk, hts⟩
  have b5 : Below w3.heap.size w3 w5 := below_kept b4 hk (Nat.le_refl _) b4.size
  have HTS := Lib.hid hts
  clear hts hk b4 HTa k0 k1 k2
  have k0 := cell_kept HK0.out b5
  have k1 := cell_kept HK1.out b5
  have k2 := cell_kept HK2.out b5
  go_wp2_with fail
  go_loopw [47] (fun vi wr => ∃ i : Nat, i ≤ n ∧ vi = .int .i64 i ∧ Hid (TimS wr w3.heap.size (A - (i : Int)) true K) ∧ Below w3.heap.size w3 wr) (fun vi _ => n - (intOf vi).toNat)
  case atStart =>
    refine ⟨0, Nat.zero_le _, rfl, ?_, b5⟩
    have h := HTS.out
    rw [show A = A - ((0 : Nat) : Int) by omega] at h
    exact h
  case round =>
    clear HTS b5 k0 k1 k2
    obtain ⟨i, hi, rfl, hS, b5⟩ := hrel
    by_cases hlt : i < n
    · have hq := hS.out
      obtain ⟨R, hR⟩ : ∃ R, A - (i : Int) = R := ⟨_, rfl⟩
      have hR1 : decide (R = 1) = false := by rw [decide_eq_false_iff_not]; omega
      have hnx : A - ((i + 1 : Nat) : Int) = R - 1 := by omega
      rw [hR] at hq
      have HQ := Lib.hid hq
      have HNX := Lib.hid hnx
      clear hS hq hR hnx
      go_wp2_with fail
      refine (tick_S w3.heap.size R true K _ HQ.out).mono ?_
      rw [hR1]
      rintro e w6 ⟨rfl, hts, bt⟩
      go_wp2_with fail
      go_roundw
      case rel => exact ⟨i + 1, by omega, by go_num, by show TimS _ _ _ _ _; rw [HNX.out]; exact hts, b5.trans bt⟩
      case measure => simp [intOf]; omega
    · obtain rfl : i = n := by omega
      have k0 := cell_kept HK0.out b5
      have k1 := cell_kept HK1.out b5
      have k2 := cell_kept HK2.out b5
      obtain ⟨LA, hLA⟩ : ∃ LA, A - (i : Int) = LA := ⟨_, rfl⟩
      have hLA1 : 1 ≤ LA ∧ LA ≤ 300 := by omega
      have y6 : IntKind.i64.wrap (A - (i : Int)) = LA := by rw [hLA]; exact IntWalk.i64_in _ (by omega)
      rw [hLA] at hS
      have a6 : Below wr.heap.size wr (wr.alloc (.cells #[.int .i64 A, .bool true, .slice p nk c] 24)) := (Below.refl _ _).alloc (Nat.le_refl _) _
      have j0 := cell_kept k0 a6
      obtain ⟨r0, r1, r2⟩ := planAt_new wr A true (.slice p nk c) 24
      have mk := make35
      clear hlt hi hLA
      have hs7 : (wr.alloc (.cells #[.int .i64 LA, .bool true, .slice p nk c] 24)).heap.size = wr.heap.size + 1 := by simp
      have hbd := bads (wr.alloc (.cells #[.int .i64 LA, .bool true, .slice p nk c] 24)) (wr.heap.size + 1) hs7
      unfold badsW at hbd
      obtain ⟨b8, hbd⟩ := hbd
      have HBD := Lib.hid hbd
      clear hbd
      go_wp2_with fail
      have hBl := hS.out.lt
      have b7 : Below wr.heap.size wr (wr.alloc (.cells #[.int .i64 LA, .bool true, .slice p nk c] 24)) := (Below.refl _ _).alloc (Nat.le_refl _) _
      obtain ⟨m0, m1, m2⟩ := planAt_new wr LA true (.slice p nk c) 24
      have HM7 := Lib.hid (cell_kept m0 b8)
      have HM8 := Lib.hid (cell_kept m1 b8)
      have HM9 := Lib.hid (cell_kept m2 b8)
      have HSb := Lib.hid ((hS.out.below b7).below b8)
      have bw := (b5.trans (b7.mono b5.size)).trans (b8.mono (Nat.le_trans b5.size b7.size))
      have hst : ∃ M, M = wr.heap.size := ⟨_, rfl⟩
      generalize (((((((wr.alloc (.cells #[.int .i64 LA, .bool true, .slice p nk c] 24)).alloc (.cells #[.int .i64 0] 3)).alloc (.cells #[.int .i64 0] 3)).alloc (.cells #[.int .i64 (-1)] 3)).alloc (.cells #[.int .i64 0, .int .i64 8193] 3)).alloc (.cells zero35 3)).alloc (.cells #[.int .i64 0, .bool false, .slice none 0 0, .int .i64 (-1), .bool false, .slice (some ⟨wr.heap.size + 1, 0, none⟩) 1 1, .int .i64 1000001, .bool false, .slice (some ⟨wr.heap.size + 1 + 1, 0, none⟩) 1 1, .int .i64 0, .bool false, .slice (some ⟨wr.heap.size + 1 + 1 + 1, 0, none⟩) 1 1, .int .i64 0, .bool false, .slice (some ⟨wr.heap.size + 1 + 1 + 1 + 1, 0, none⟩) 2 2, .int .i64 0, .bool false, .slice (some ⟨wr.heap.size + 1 + 1 + 1 + 1 + 1, 0, none⟩) 35 35] 24)) = wS at *
      generalize wr.heap.size = M at *
      clear b8 b7 m0 m1 m2 hs7 j0 r0 r1 r2 a6 hS hst k0 k1 k2
      have hMS : M < wS.heap.size := World.block_lt_of_cell? _ _ HM7.out
      have hBS := HSb.out.lt
      go_loopw [71] (fun vi wr => ∃ i : Nat, i ≤ 6 ∧ vi = .int .i64 i ∧ Below wS.heap.size wS wr) (fun vi _ => 6 - (intOf vi).toNat)
      case atStart => exact ⟨0, Nat.zero_le _, rfl, Below.refl _ _⟩
      case round =>
        obtain ⟨i2, hi2, rfl, b9⟩ := hrel
        by_cases hlt : i2 < 6
        · obtain ⟨A', L', p', n', o1, o2, o3, o4, o5, o6⟩ := HBD.out i2 hlt
          have q0 := cell_kept o3 b9
          have q1 := cell_kept o4 b9
          have q2 := cell_kept o5 b9
          have HQ := Lib.hid (o6.below b9)
          have HO1 := Lib.hid o1
          obtain ⟨l', hl'⟩ : ∃ l', L'.length = l' := ⟨_, rfl⟩
          rw [hl'] at q2 HQ
          have HL' : Hid (L'.length ≤ 1099511627776) := by show L'.length ≤ _; omega
          have HS9 := Lib.hid (HSb.out.below b9)
          clear o1 o2 o3 o4 o5 o6 hl'
          have aX := (Below.refl wr.heap.size wr).alloc (Nat.le_refl _) (.cells #[.int .i64 A', .bool false, .slice p' l' n'] 24)
          obtain ⟨r0, r1, r2⟩ := planAt_new wr A' false (.slice p' l' n') 24
          obtain ⟨pt, ht9⟩ := (HS9.out.below aX).at
          have HT9 := Lib.hid ht9
          have b10 := b9.trans (aX.mono b9.size)
          have HQX := Lib.hid (HQ.out.below aX)
          clear aX ht9
          go_wp2_with fail
          refine (arm_bad w3.heap.size pt A' false _ L' _ HT9.out HQX.out HL'.out HO1.out).mono ?_
          rintro e w8 ⟨rfl, b1⟩
          have b11 := b10.trans (b1.mono b10.size)
          clear b1 b9 b10 q0 q1 q2 r0 r1 r2
          go_wp2_with fail
          go_roundw
          case rel => exact ⟨i2 + 1, by omega, by go_num, b11⟩
          case measure => simp [intOf]; omega
        · obtain rfl : i2 = 6 := by omega
          have HS9 := Lib.hid (HSb.out.below b9)
          have k0 := cell_kept HK0.out (bw.trans (b9.mono (Nat.le_of_lt (Nat.lt_of_lt_of_le (Nat.lt_of_le_of_lt (Nat.le_refl _) hBS) (Nat.le_refl _)))))
          have bA := bw.trans (b9.mono (Nat.le_of_lt hBS))
          have m0 := cell_kept HM7.out b9
          have m1 := cell_kept HM8.out b9
          have m2 := cell_kept HM9.out b9
          clear k0 hlt hi2 HBD
          go_wp2_with fail
          refine (plan_S1 w3.heap.size LA true K _ HS9.out hLA1.1 HKl.out).mono ?_
          rintro e w8 ⟨p8, n8, rfl, hn8, b1⟩
          rw [HNn.out] at hn8 ⊢
          -- the plan that is left
          have bX := bA.trans (b1.mono bA.size)
          replace m0 := cell_kept m0 b1
          replace m1 := cell_kept m1 b1
          replace m2 := cell_kept m2 b1
          have HSa := Lib.hid (HS9.out.below b1)
          have hMl : M < w8.heap.size := World.block_lt_of_cell? _ _ m0
          clear b1 bA b9 bw HS9 HSb
          have aY := (Below.refl w8.heap.size w8).alloc (Nat.le_refl _) (.cells #[.int .i64 LA, .bool true, .slice p8 nk n8] 24)
          obtain ⟨r0, r1, r2⟩ := planAt_new w8 LA true (.slice p8 nk n8) 24
          replace m0 := cell_kept m0 aY
          replace m1 := cell_kept m1 aY
          replace m2 := cell_kept m2 aY
          have HSb := Lib.hid (HSa.out.below aY)
          have bY := bX.trans (aY.mono bX.size)
          have HN8 := Lib.hid (IntsAt.below (IntsNew.at hn8) aY)
          have HIx := Lib.hid (HI.out.below bY)
          clear hn8 bX HSa
          go_wp2_with fail
          refine (same2_any LA true _ K LA true _ K _ HN8.out HIx.out (by have := HKl.out; omega) (by have := HKl.out; omega)).mono ?_
          rw [sameB_self]
          rintro e w9 ⟨rfl, b1⟩
          have bX := bY.trans (b1.mono bY.size)
          replace m0 := cell_kept m0 b1
          replace m1 := cell_kept m1 b1
          replace m2 := cell_kept m2 b1
          have HSa := Lib.hid (HSb.out.below b1)
          clear b1 bY aY HSb HN8 HIx r0 r1 r2
          -- a copy
          go_wp2_with fail
          refine (copy_S w3.heap.size LA true K _ HSa.out HKl.out).mono ?_
          rintro e w10 ⟨rfl, b1, hcp⟩
          have hB9 := HSa.out.lt
          have hM9 : M < w9.heap.size := World.block_lt_of_cell? _ _ m0
          have bY := bX.trans (b1.mono bX.size)
          replace m0 := cell_kept m0 b1
          replace m1 := cell_kept m1 b1
          replace m2 := cell_kept m2 b1
          have HSb := Lib.hid (HSa.out.below b1)
          have HC10 := Lib.hid hcp
          have hw10 := b1.size
          clear b1 bX HSa hcp
          have l0 := cell_kept HL0.out bY
          have l1 := cell_kept HL1.out bY
          have l2 := cell_kept HL2.out bY
          obtain ⟨pt, ht10⟩ := HSb.out.at
          have HT10 := Lib.hid ht10
          clear ht10
          obtain ⟨C2, hC2⟩ : ∃ C2, w9.heap.size = C2 := ⟨_, rfl⟩
          rw [hC2] at HC10 hB9 hM9 hw10
          go_wp2_with fail
          refine (arm_S w3.heap.size pt Q false _ K _ HT10.out (HJ.out.below bY) HOQ.out).mono ?_
          rintro e w11 ⟨rfl, hk, hts⟩
          have bX := below_kept bY hk (Nat.le_refl _) bY.size
          have hMb : w11.heap[M]? = w10.heap[M]? := hk.block M (Nat.lt_of_lt_of_le hM9 hw10) (fun e => by cases e; omega)
          replace m0 := (World.cell?_of_block hMb).trans m0
          replace m1 := (World.cell?_of_block hMb).trans m1
          replace m2 := (World.cell?_of_block hMb).trans m2
          have HC11 := Lib.hid (HC10.out.kept hk hB9)
          have HS11 := Lib.hid hts
          clear hk hts bY HC10 HSb HT10 hMb l0 l1 l2 hC2
          -- both plans
          go_wp2_with fail
          refine (plan_S1 w3.heap.size Q false K _ HS11.out hQ0.1 HKl.out).mono ?_
          rintro e w12 ⟨p12, n12, rfl, hn12, b1⟩
          rw [HNn.out] at hn12 ⊢
          have a12 := (Below.refl w12.heap.size w12).alloc (Nat.le_refl _) (.cells #[.int .i64 Q, .bool false, .slice p12 nk n12] 24)
          obtain ⟨r0, r1, r2⟩ := planAt_new w12 Q false (.slice p12 nk n12) 24
          have b2 := b1.trans (a12.mono b1.size)
          have bY := bX.trans (b2.mono bX.size)
          replace m0 := cell_kept m0 b2
          replace m1 := cell_kept m1 b2
          replace m2 := cell_kept m2 b2
          have HCa := Lib.hid (HC11.out.below b2)
          have HSb := Lib.hid (HS11.out.below b2)
          have HN12 := Lib.hid (IntsAt.below (IntsNew.at hn12) a12)
          clear b1 b2 bX a12 hn12 HC11 HS11
          go_wp2_with fail
          refine (plan_S1 C2 LA true K _ HCa.out hLA1.1 HKl.out).mono ?_
          rintro e w13 ⟨p13, n13, rfl, hn13, b1⟩
          rw [HNn.out] at hn13 ⊢
          have a13 := (Below.refl w13.heap.size w13).alloc (Nat.le_refl _) (.cells #[.int .i64 LA, .bool true, .slice p13 nk n13] 24)
          obtain ⟨s0, s1, s2⟩ := planAt_new w13 LA true (.slice p13 nk n13) 24
          have b2 := b1.trans (a13.mono b1.size)
          have bX := bY.trans (b2.mono bY.size)
          replace m0 := cell_kept m0 b2
          replace m1 := cell_kept m1 b2
          replace m2 := cell_kept m2 b2
          replace r0 := cell_kept r0 b2
          replace r1 := cell_kept r1 b2
          replace r2 := cell_kept r2 b2
          have HC11 := Lib.hid (HCa.out.below b2)
          have HS11 := Lib.hid (HSb.out.below b2)
          have HN12b := Lib.hid (HN12.out.below b2)
          have HN13 := Lib.hid (IntsAt.below (IntsNew.at hn13) a13)
          have l0 := cell_kept HL0.out bX
          have l1 := cell_kept HL1.out bX
          have l2 := cell_kept HL2.out bX
          have HJx := Lib.hid (HJ.out.below bX)
          have HIx := Lib.hid (HI.out.below bX)
          clear b1 b2 bY a13 hn13 HCa HSb HN12
          go_wp2_with fail
          refine (same2_any Q false _ K Q false _ K _ HN12b.out HJx.out (by have := HKl.out; omega) (by have := HKl.out; omega)).mono ?_
          rw [sameB_self]
          rintro e w14 ⟨rfl, b1⟩
          have bY := bX.trans (b1.mono bX.size)
          replace m0 := cell_kept m0 b1
          replace m1 := cell_kept m1 b1
          replace m2 := cell_kept m2 b1
          replace s0 := cell_kept s0 b1
          replace s1 := cell_kept s1 b1
          replace s2 := cell_kept s2 b1
          have HCa := Lib.hid (HC11.out.below b1)
          have HSb := Lib.hid (HS11.out.below b1)
          have HN13b := Lib.hid (HN13.out.below b1)
          have HIy := Lib.hid (HIx.out.below b1)
          clear b1 bX HC11 HS11 HN13 HIx HJx HN12b r0 r1 r2 l0 l1 l2
          go_wp2_with fail
          refine (same2_any LA true _ K LA true _ K _ HN13b.out HIy.out (by have := HKl.out; omega) (by have := HKl.out; omega)).mono ?_
          rw [sameB_self]
          rintro e w15 ⟨rfl, b1⟩
          have bX := bY.trans (b1.mono bY.size)
          replace m0 := cell_kept m0 b1
          have HMf := Lib.hid m0
          have HCb := Lib.hid (HCa.out.below b1)
          have HSc := Lib.hid (HSb.out.below b1)
          clear b1 bY HCa HSb HN13b HIy s0 s1 s2 m1 m2 m0
          obtain ⟨pf, htf⟩ := HSc.out.at
          have HTF := Lib.hid htf
          clear htf HSc
          go_wp2_with fail
          -- the copy counts for itself
          go_loopw [23] (fun vi wr => ∃ k : Nat, 1 ≤ k ∧ (k : Int) ≤ LA + 1 ∧ vi = .int .i64 k ∧ Hid (TimS wr C2 (LA - (k : Int) + 1) true K) ∧ Below C2 w15 wr) (fun vi _ => LA.toNat + 1 - (intOf vi).toNat)
          case atStart =>
            refine ⟨1, by omega, by omega, rfl, ?_, Below.refl _ _⟩
            have h := HCb.out
            rw [show LA = LA - ((1 : Nat) : Int) + 1 by omega] at h
            exact h
          case round =>
            clear HCb
            obtain ⟨k, hk1, hkT, rfl, hS, b4⟩ := hrel
            have m0 : wr.cell? ⟨M, 0, none⟩ = some (.int .i64 LA) := (b4.cell (p := ⟨M, 0, none⟩) hM9).trans HMf.out
            by_cases hlt : (k : Int) ≤ LA
            · have d1 : decide ((k : Int) ≤ LA) = true := by rw [decide_eq_true_iff]; exact hlt
              obtain ⟨R, hR⟩ : ∃ R, LA - (k : Int) + 1 = R := ⟨_, rfl⟩
              have hnext : LA - ((k + 1 : Nat) : Int) + 1 = R - 1 := by omega
              have hRk : decide (R = 1) = ((k : Int) == LA) := by
                by_cases h : (k : Int) = LA
                · rw [h, decide_eq_true (by omega)]; exact (beq_self_eq_true _).symm
                · rw [decide_eq_false (by omega)]; exact (beq_false_of_ne h).symm
              rw [hR] at hS
              have HNX := Lib.hid hnext
              have HRK := Lib.hid hRk
              clear hR hnext hRk
              go_wp2_with fail
              go_cut [143] from 137 to 143 (fun b wx => b = .bool false ∧ Hid (TimS wx C2 (R - 1) true K) ∧ Below C2 w15 wx)
              case first =>
                have jd : wr.drew.cell? ⟨M, 0, none⟩ = some (.int .i64 LA) := m0
                have HSd : Hid (TimS wr.drew C2 R true K) := hS.out
                have bd := b4.drew
                have hkA : decide (R = 1) = ((k : Int) == LA) := HRK.out
                go_region_with (go_at_call 29; refine (tick_S C2 R true K _ HSd.out).mono ?_; rw [hkA]; rintro y wk ⟨rfl, hts, btk⟩; have jk : wk.cell? ⟨M, 0, none⟩ = some (.int .i64 LA) := (by rw [btk.cell (p := ⟨M, 0, none⟩) hM9]; exact jd))
                all_goals (go_wp2_with fail; go_meet; exact ⟨by simp, hts, bd.trans btk⟩)
              case rest =>
                obtain ⟨rfl, hts, b4⟩ := hcut
                go_wp2_with fail
                go_roundw
                case rel => exact ⟨k + 1, by omega, by omega, by go_num, by show TimS _ _ _ _ _; rw [HNX.out]; exact hts.out, b4⟩
                case measure => simp [intOf]; omega
            · have d1 : decide ((k : Int) ≤ LA) = false := by rw [decide_eq_false_iff_not]; exact hlt
              have hbB : wr.heap[w3.heap.size]? = w15.heap[w3.heap.size]? := b4.block _ hB9
              have HT0 := Lib.hid (HTF.out.block hbB)
              have bF : Below w3.heap.size w3 wr := bX.trans (b4.mono (Nat.le_of_lt hB9))
              clear hS hlt hk1 hkT b4 hbB bX
              go_wp2_with fail
              refine (disarm_any w3.heap.size true pf _ HT0.out).mono ?_
              rintro e w16 ⟨rfl, rfl⟩
              have HT1 := Lib.hid (HT0.out.set none)
              have bG := below_set bF w3.heap.size (Nat.le_refl _) 1 (.pointer none)
              generalize (wr.setCell ⟨w3.heap.size, 1, none⟩ (.pointer none)) = w17 at *
              clear bF HT0 m0 d1
              go_wp2_with fail
              refine (plan_no w3.heap.size true _ HT1.out).mono ?_
              rintro e w18 ⟨rfl, b1⟩
              have HT2 := Lib.hid (HT1.out.below b1)
              have bF := bG.trans (b1.mono bG.size)
              clear b1 bG HT1
              go_wp2_with fail
              refine (tick_no w3.heap.size true _ HT2.out).mono ?_
              rintro e w19 ⟨rfl, rfl⟩
              have a1 := (Below.refl w18.heap.size w18).alloc (Nat.le_refl _) (.cells #[.int .i64 1] 3)
              have HT3 := Lib.hid (HT2.out.below a1)
              have HI1 := Lib.hid (IntsAt.one w18 1 3)
              have bG := bF.trans (a1.mono bF.size)
              clear a1 bF HT2
              go_wp2_with fail
              refine (arm_zero w3.heap.size none false _ [1] _ HT3.out HI1.out (by decide)).mono ?_
              rintro e w20 ⟨rfl, hk, ht4⟩
              have bF := below_kept bG hk (Nat.le_refl _) bG.size
              have HT4 := Lib.hid ht4
              clear hk ht4 bG HT3 HI1
              go_wp2_with fail
              refine (plan_no w3.heap.size true _ HT4.out).mono ?_
              rintro e w21 ⟨rfl, b1⟩
              have HT5 := Lib.hid (HT4.out.below b1)
              have bG := bF.trans (b1.mono bF.size)
              clear b1 bF HT4
              go_wp2_with fail
              refine (tick_no w3.heap.size true _ HT5.out).mono ?_
              rintro e w22 ⟨rfl, rfl⟩
              have c9 := c3.trans (bG.mono c3.size)
              go_wp2_with fail
              refine (works_any m _ (HT.out.below c9) (HE.out.below c9) (cell_kept HM.out c9)).mono ?_
              rintro e w23 ⟨rfl, b1⟩
              have c10 := c9.trans (b1.mono c9.size)
              clear c9 b1
              go_wp2_with fail
              go_ret
              exact ⟨rfl, c10⟩
end Go.Proofs.YtoceeegdbnigeaaDoor
