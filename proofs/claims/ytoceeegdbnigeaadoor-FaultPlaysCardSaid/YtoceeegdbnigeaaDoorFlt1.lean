/-
  Plans: how the numbers of a plan read in memory; what Check computes, of the program and of the reference.
  Conditions: none.
-/
import Derived.Test.YtoceeegdbnigeaaDoorProg
import Derived.Test.YtoceeegdbnigeaaDoorPlain
import Derived.Test.YtoceeegdbnigeaaDoorShelf
import Derived.Test.YtoceeegdbnigeaaDoorMem
import Derived.WalkLawsBesides
import Derived.WalkSpells
import Derived.Deep.QuietTactic
import Derived.BigQuiet
import Derived.Outline
import Derived.Lib.Hide
import Derived.Deep.RegionHeld3
import Derived.StillTailTactics
set_option linter.unusedVariables false
namespace Go.Proofs.YtoceeegdbnigeaaDoor
open Go Go.RowKit

/-- The value v is a slice that reads as the numbers L in the world w. -/
def IntsAt (w : World) (v : Value) (L : List Int) : Prop :=
  ∃ p c, v = .slice p L.length c ∧ L.length ≤ c ∧ (0 < L.length → ∃ b o, p = some ⟨b, o, none⟩ ∧ ∀ i, i < L.length → w.cell? ⟨b, o + i, none⟩ = some (.int .i64 (L.getD i 0)))
theorem IntsAt.below {w w' : World} {v : Value} {L : List Int} (h : IntsAt w v L) (hb : Below w.heap.size w w') : IntsAt w' v L := by
  obtain ⟨p, c, hv, hc, hp⟩ := h
  refine ⟨p, c, hv, hc, fun h0 => ?_⟩
  obtain ⟨b, o, h1, h2⟩ := hp h0
  exact ⟨b, o, h1, fun i hi => cell_kept (h2 i hi) hb⟩
theorem IntsAt.nil (w : World) (p : Option Addr) (c : Nat) : IntsAt w (.slice p 0 c) [] := ⟨p, c, rfl, Nat.zero_le _, fun h => absurd h (Nat.lt_irrefl 0)⟩
/-- A plan as a value. -/
abbrev planV (A : Int) (d : Bool) (v : Value) : Value := .agg #[.int .i64 A, .bool d, v]
theorem planAt_new (w : World) (A : Int) (d : Bool) (v : Value) (t : TypeId) :
    (w.alloc (.cells #[.int .i64 A, .bool d, v] t)).cell? ⟨w.heap.size, 0, none⟩ = some (.int .i64 A) ∧ (w.alloc (.cells #[.int .i64 A, .bool d, v] t)).cell? ⟨w.heap.size, 1, none⟩ = some (.bool d) ∧ (w.alloc (.cells #[.int .i64 A, .bool d, v] t)).cell? ⟨w.heap.size, 2, none⟩ = some v :=
  ⟨by rw [Lib.cell_of_heap (heap_alloc_new w _)]; rfl, by rw [Lib.cell_of_heap (heap_alloc_new w _)]; rfl, by rw [Lib.cell_of_heap (heap_alloc_new w _)]; rfl⟩
def inB (n m : Int) : Bool := decide (0 ≤ n ∧ n ≤ m)
theorem fin_any (n m : Int) (w : World) :
    Calls Tryd.prog 42 #[.int .i64 n, .int .i64 m] w fun e w' => e = .returned (.bool (inB n m)) ∧ w = w' := by
  by_cases h1 : 0 ≤ n
  · have d1 : decide (0 ≤ n) = true := by rw [decide_eq_true_iff]; exact h1
    by_cases h2 : n ≤ m
    · have d2 : decide (n ≤ m) = true := by rw [decide_eq_true_iff]; exact h2
      have HB : Hid (inB n m = true) := by show decide _ = _; rw [decide_eq_true_iff]; exact ⟨h1, h2⟩
      clear h1 h2
      go_enter Tryd.func42, Tryd.ntmps42
      go_wp2_with fail
      go_ret
      exact ⟨by rw [HB.out]; rfl, rfl⟩
    · have d2 : decide (n ≤ m) = false := by rw [decide_eq_false_iff_not]; exact h2
      have HB : Hid (inB n m = false) := by show decide _ = _; rw [decide_eq_false_iff_not]; exact fun h => h2 h.2
      clear h1 h2
      go_enter Tryd.func42, Tryd.ntmps42
      go_wp2_with fail
      go_ret
      exact ⟨by rw [HB.out]; rfl, rfl⟩
  · have d1 : decide (0 ≤ n) = false := by rw [decide_eq_false_iff_not]; exact h1
    have HB : Hid (inB n m = false) := by show decide _ = _; rw [decide_eq_false_iff_not]; exact fun h => h1 h.1
    clear h1
    go_enter Tryd.func42, Tryd.ntmps42
    go_wp2_with fail
    go_ret
    exact ⟨by rw [HB.out]; rfl, rfl⟩
/-- Whether some number is not from 0 to 8192. -/
def outB (k : Int) : Bool := !inB k 8192
theorem fout_any (k : Int) (w : World) :
    Calls Tryd.prog 44 #[.int .i64 k] w fun e w' => e = .returned (.bool (outB k)) ∧ w = w' := by
  obtain ⟨b, hb⟩ : ∃ b, inB k 8192 = b := ⟨_, rfl⟩
  have HB := Lib.hid hb
  have HO : Hid (outB k = !b) := by show _ = _; unfold outB; rw [hb]
  clear hb
  go_enter Tryd.func44, Tryd.ntmps44
  go_wp2_with fail
  refine (fin_any k 8192 _).mono ?_
  rw [HB.out]
  rintro e w1 ⟨rfl, rfl⟩
  go_wp2_with fail
  go_ret
  exact ⟨by rw [HO.out]; rfl, rfl⟩
/-- The first place at which it is so. -/
def firstOut : List Int → Nat → Int
  | [], _ => -1
  | k :: r, i => if outB k = true then i else firstOut r (i + 1)
theorem firstOut_any (L : List Int) : ∀ i, (0 ≤ firstOut L i) ↔ L.any outB = true := by
  induction L with
  | nil => intro i; simp [firstOut]
  | cons k r ih =>
    intro i
    unfold firstOut
    by_cases h : outB k = true
    · rw [if_pos h]; simp [h]
    · rw [if_neg h, ih]; simp [h]
theorem firstOut_drop (L : List Int) (i : Nat) (h : i < L.length) : firstOut (L.drop i) i = if outB (L.getD i 0) = true then (i : Int) else firstOut (L.drop (i + 1)) (i + 1) := by
  rw [List.drop_eq_getElem_cons h, firstOut, List.getD, List.getElem?_eq_getElem h]
  rfl
theorem indexOut_any (v : Value) (L : List Int) (w : World) (hv : IntsAt w v L) (hl : L.length ≤ 1099511627776) :
    Calls Tryd.prog 56 #[v, .func (.func 44) #[] #[]] w fun e w' => e = .returned (.int .i64 (firstOut L 0)) ∧ w = w' := by
  obtain ⟨p, c, rfl, hc, hp⟩ := hv
  have HP := Lib.hid hp
  clear hp
  go_enter Tryd.func56, Tryd.ntmps56
  go_wp2_with fail
  go_loopw [8] (fun vi wr => ∃ i : Nat, i ≤ L.length ∧ vi = .int .i64 i ∧ Hid (wr = w) ∧ Hid (firstOut (L.drop i) i = firstOut L 0)) (fun vi _ => L.length - (intOf vi).toNat)
  case atStart => exact ⟨0, Nat.zero_le _, rfl, rfl, rfl⟩
  case round =>
    obtain ⟨i, hi, rfl, hw, hF⟩ := hrel
    obtain rfl := hw.out
    by_cases hlt : i < L.length
    · obtain ⟨b, o, rfl, hcell⟩ := HP.out (by omega)
      have hci := hcell i hlt
      have hfd := firstOut_drop L i hlt
      obtain ⟨k, hk⟩ : ∃ k, L.getD i 0 = k := ⟨_, rfl⟩
      rw [hk] at hci hfd
      have HFD := Lib.hid hfd
      clear hcell hk hfd
      rcases hob : outB k with _ | _
      · have HOB := Lib.hid hob
        clear hob
        go_wp2_with fail
        refine (fout_any k _).mono ?_
        rw [HOB.out]
        rintro e w1 ⟨rfl, rfl⟩
        go_wp2_with fail
        go_roundw
        case rel => exact ⟨i + 1, by omega, by go_num, trivial, by show _ = _; rw [← hF.out, HFD.out, HOB.out]; rfl⟩
        case measure => simp [intOf]; omega
      · have HOB := Lib.hid hob
        clear hob
        go_wp2_with fail
        refine (fout_any k _).mono ?_
        rw [HOB.out]
        rintro e w1 ⟨rfl, rfl⟩
        go_wp2_with fail
        go_ret
        exact ⟨by rw [← hF.out, HFD.out, HOB.out]; rfl, rfl⟩
    · obtain rfl : i = L.length := by omega
      clear hlt hi
      go_wp2_with fail
      go_ret
      exact ⟨by rw [← hF.out, List.drop_length]; rfl, rfl⟩
theorem contOut_any (v : Value) (L : List Int) (w : World) (hv : IntsAt w v L) (hl : L.length ≤ 1099511627776) :
    Calls Tryd.prog 43 #[v, .func (.func 44) #[] #[]] w fun e w' => e = .returned (.bool (L.any outB)) ∧ w = w' := by
  obtain ⟨x, hx⟩ : ∃ x, firstOut L 0 = x := ⟨_, rfl⟩
  have HX := Lib.hid hx
  have hd : decide (0 ≤ x) = L.any outB := by
    rw [Bool.eq_iff_iff, decide_eq_true_iff, ← hx]
    exact firstOut_any L 0
  have HV := Lib.hid hv
  obtain ⟨b, hb⟩ : ∃ b, L.any outB = b := ⟨_, rfl⟩
  rw [hb] at hd
  have HB := Lib.hid hb
  clear hx hv hb
  go_enter Tryd.func43, Tryd.ntmps43
  go_wp2_with fail
  refine (indexOut_any v L _ HV.out hl).mono ?_
  rw [HX.out]
  rintro e w1 ⟨rfl, rfl⟩
  go_wp2_with fail
  go_ret
  exact ⟨by rw [HB.out, ← hd]; rfl, rfl⟩
/-- Which plans are valid. -/
def planOK (A : Int) (L : List Int) : Bool := inB A 1000000 && decide (1 ≤ L.length ∧ L.length ≤ 34) && !L.any outB
def planE (A : Int) (L : List Int) : Int := if planOK A L = true then 0 else 2
set_option maxHeartbeats 4000000 in
theorem fcheck_any (A : Int) (d : Bool) (v : Value) (L : List Int) (w : World) (hv : IntsAt w v L) (hl : L.length ≤ 1099511627776) :
    Calls Tryd.prog 19 #[planV A d v] w fun e w' => e = .returned (.int .i64 (planE A L)) ∧ Below w.heap.size w w' := by
  obtain ⟨k0, k1, k2⟩ := planAt_new w A d v 24
  have c1 : Below w.heap.size w (w.alloc (.cells #[.int .i64 A, .bool d, v] 24)) := (Below.refl _ _).alloc (Nat.le_refl _) _
  have HV := Lib.hid (hv.below c1)
  obtain ⟨p, c, rfl, hc, _⟩ := hv
  have hin : inB ((L.length : Int) - 1) 33 = decide (1 ≤ L.length ∧ L.length ≤ 34) := by
    unfold inB
    rw [decide_eq_decide]
    omega
  have hE : planE A L = if (inB A 1000000 && decide (1 ≤ L.length ∧ L.length ≤ 34) && !L.any outB) = true then 0 else 2 := rfl
  obtain ⟨b1, hb1⟩ : ∃ b, inB A 1000000 = b := ⟨_, rfl⟩
  obtain ⟨b2, hb2⟩ : ∃ b, decide (1 ≤ L.length ∧ L.length ≤ 34) = b := ⟨_, rfl⟩
  obtain ⟨b3, hb3⟩ : ∃ b, L.any outB = b := ⟨_, rfl⟩
  rw [hb1, hb2, hb3] at hE
  rw [hb2] at hin
  have H1 := Lib.hid hb1
  have H2 := Lib.hid hin
  have H3 := Lib.hid hb3
  have HE := Lib.hid hE
  clear hb1 hb2 hb3 hin hE
  cases b1
  · go_enter Tryd.func19, Tryd.ntmps19
    go_wp2_with fail
    refine (fin_any A 1000000 _).mono ?_
    rw [H1.out]
    rintro e w1 ⟨rfl, rfl⟩
    go_wp2_with fail
    go_ret
    exact ⟨by rw [HE.out]; rfl, c1⟩
  · cases b2
    · go_enter Tryd.func19, Tryd.ntmps19
      go_wp2_with fail
      refine (fin_any A 1000000 _).mono ?_
      rw [H1.out]
      rintro e w1 ⟨rfl, rfl⟩
      go_wp2_with fail
      refine (fin_any ((L.length : Int) - 1) 33 _).mono ?_
      rw [H2.out]
      rintro e w1 ⟨rfl, rfl⟩
      go_wp2_with fail
      go_ret
      exact ⟨by rw [HE.out]; rfl, c1⟩
    · cases b3
      · go_enter Tryd.func19, Tryd.ntmps19
        go_wp2_with fail
        refine (fin_any A 1000000 _).mono ?_
        rw [H1.out]
        rintro e w1 ⟨rfl, rfl⟩
        go_wp2_with fail
        refine (fin_any ((L.length : Int) - 1) 33 _).mono ?_
        rw [H2.out]
        rintro e w1 ⟨rfl, rfl⟩
        go_wp2_with fail
        refine (contOut_any _ L _ HV.out hl).mono ?_
        rw [H3.out]
        rintro e w1 ⟨rfl, rfl⟩
        go_wp2_with fail
        go_ret
        exact ⟨by rw [HE.out]; rfl, c1⟩
      · go_enter Tryd.func19, Tryd.ntmps19
        go_wp2_with fail
        refine (fin_any A 1000000 _).mono ?_
        rw [H1.out]
        rintro e w1 ⟨rfl, rfl⟩
        go_wp2_with fail
        refine (fin_any ((L.length : Int) - 1) 33 _).mono ?_
        rw [H2.out]
        rintro e w1 ⟨rfl, rfl⟩
        go_wp2_with fail
        refine (contOut_any _ L _ HV.out hl).mono ?_
        rw [H3.out]
        rintro e w1 ⟨rfl, rfl⟩
        go_wp2_with fail
        go_ret
        exact ⟨by rw [HE.out]; rfl, c1⟩
theorem any_drop (L : List Int) (i : Nat) (h : i < L.length) : (L.drop i).any outB = (outB (L.getD i 0) || (L.drop (i + 1)).any outB) := by
  rw [List.drop_eq_getElem_cons h, List.any_cons, List.getD, List.getElem?_eq_getElem h]
  rfl
set_option maxHeartbeats 4000000 in
theorem rcheck_any (A : Int) (d : Bool) (v : Value) (L : List Int) (w : World) (hv : IntsAt w v L) (hl : L.length ≤ 1099511627776) :
    Calls Tryd.prog 20 #[planV A d v] w fun e w' => e = .returned (.int .i64 (planE A L)) ∧ Below w.heap.size w w' := by
  obtain ⟨k0, k1, k2⟩ := planAt_new w A d v 24
  have c1 : Below w.heap.size w (w.alloc (.cells #[.int .i64 A, .bool d, v] 24)) := (Below.refl _ _).alloc (Nat.le_refl _) _
  have HV := Lib.hid (hv.below c1)
  obtain ⟨p, c, rfl, hc, _⟩ := hv
  obtain ⟨p', c', he, _, hp⟩ := HV.out
  injection he with e1 _ e2
  subst e1 e2
  have HP := Lib.hid hp
  clear hp HV
  have hbad : ¬ (0 ≤ A ∧ A ≤ 1000000 ∧ 1 ≤ L.length ∧ L.length ≤ 34) → planE A L = 2 := fun h => by
    unfold planE
    rw [if_neg]
    unfold planOK inB
    simp only [Bool.and_eq_true, decide_eq_true_iff]
    omega
  have hgood : (0 ≤ A ∧ A ≤ 1000000 ∧ 1 ≤ L.length ∧ L.length ≤ 34) → planE A L = if L.any outB = true then 2 else 0 := fun h => by
    unfold planE planOK inB
    rw [decide_eq_true (show 0 ≤ A ∧ A ≤ 1000000 by omega), decide_eq_true (show 1 ≤ L.length ∧ L.length ≤ 34 by omega)]
    cases L.any outB <;> rfl
  by_cases h1 : A < 0
  · have d1 : decide (A < 0) = true := by rw [decide_eq_true_iff]; exact h1
    have HE := Lib.hid (hbad (by omega))
    clear hbad hgood h1
    go_enter Tryd.func20, Tryd.ntmps20
    go_wp2_with fail
    go_ret
    exact ⟨by rw [HE.out]; rfl, c1⟩
  · have d1 : decide (A < 0) = false := by rw [decide_eq_false_iff_not]; exact h1
    by_cases h2 : 1000000 < A
    · have d2 : decide (1000000 < A) = true := by rw [decide_eq_true_iff]; exact h2
      have HE := Lib.hid (hbad (by omega))
      clear hbad hgood h1 h2
      go_enter Tryd.func20, Tryd.ntmps20
      go_wp2_with fail
      go_ret
      exact ⟨by rw [HE.out]; rfl, c1⟩
    · have d2 : decide (1000000 < A) = false := by rw [decide_eq_false_iff_not]; exact h2
      by_cases h3 : L.length < 1
      · have d3 : decide ((L.length : Int) < 1) = true := by rw [decide_eq_true_iff]; omega
        have HE := Lib.hid (hbad (by omega))
        clear hbad hgood h1 h2
        go_enter Tryd.func20, Tryd.ntmps20
        go_wp2_with fail
        go_ret
        exact ⟨by rw [HE.out]; rfl, c1⟩
      · have d3 : decide ((L.length : Int) < 1) = false := by rw [decide_eq_false_iff_not]; omega
        by_cases h4 : 34 < L.length
        · have d4 : decide ((34 : Int) < (L.length : Int)) = true := by rw [decide_eq_true_iff]; omega
          have HE := Lib.hid (hbad (by omega))
          clear hbad hgood h1 h2
          go_enter Tryd.func20, Tryd.ntmps20
          go_wp2_with fail
          go_ret
          exact ⟨by rw [HE.out]; rfl, c1⟩
        · have d4 : decide ((34 : Int) < (L.length : Int)) = false := by rw [decide_eq_false_iff_not]; omega
          have HE := Lib.hid (hgood (by omega))
          clear hbad hgood h1 h2
          go_enter Tryd.func20, Tryd.ntmps20
          go_wp2_with fail
          go_loopw [3] (fun vi wr => ∃ i : Nat, i ≤ L.length ∧ vi = .int .i64 i ∧ Hid (wr = w.alloc (.cells #[.int .i64 A, .bool d, .slice p L.length c] 24)) ∧ Hid ((L.drop i).any outB = L.any outB)) (fun vi _ => L.length - (intOf vi).toNat)
          case atStart => exact ⟨0, Nat.zero_le _, rfl, rfl, rfl⟩
          case round =>
            obtain ⟨i, hi, rfl, hw, hF⟩ := hrel
            obtain rfl := hw.out
            by_cases hlt : i < L.length
            · obtain ⟨b, o, rfl, hcell⟩ := HP.out (by omega)
              have hci := hcell i hlt
              have hfd := any_drop L i hlt
              obtain ⟨k, hk⟩ : ∃ k, L.getD i 0 = k := ⟨_, rfl⟩
              rw [hk] at hci hfd
              have HFD := Lib.hid hfd
              clear hcell hk hfd
              by_cases g1 : k < 0
              · have f1 : decide (k < 0) = true := by rw [decide_eq_true_iff]; exact g1
                have HO : Hid (outB k = true) := by show _ = _; unfold outB inB; rw [decide_eq_false (by omega)]; rfl
                clear g1
                go_wp2_with fail
                go_ret
                exact ⟨by rw [HE.out, ← hF.out, HFD.out, HO.out]; rfl, c1⟩
              · have f1 : decide (k < 0) = false := by rw [decide_eq_false_iff_not]; exact g1
                by_cases g2 : 8192 < k
                · have f2 : decide (8192 < k) = true := by rw [decide_eq_true_iff]; exact g2
                  have HO : Hid (outB k = true) := by show _ = _; unfold outB inB; rw [decide_eq_false (by omega)]; rfl
                  clear g1 g2
                  go_wp2_with fail
                  go_ret
                  exact ⟨by rw [HE.out, ← hF.out, HFD.out, HO.out]; rfl, c1⟩
                · have f2 : decide (8192 < k) = false := by rw [decide_eq_false_iff_not]; exact g2
                  have HO : Hid (outB k = false) := by show _ = _; unfold outB inB; rw [decide_eq_true (by omega)]; rfl
                  clear g1 g2
                  go_wp2_with fail
                  go_roundw
                  case rel => exact ⟨i + 1, by omega, by go_num, trivial, by show _ = _; rw [← hF.out, HFD.out, HO.out]; rfl⟩
                  case measure => simp [intOf]; omega
            · obtain rfl : i = L.length := by omega
              clear hlt hi
              go_wp2_with fail
              go_ret
              exact ⟨by rw [HE.out, ← hF.out, List.drop_length]; rfl, c1⟩
end Go.Proofs.YtoceeegdbnigeaaDoor
