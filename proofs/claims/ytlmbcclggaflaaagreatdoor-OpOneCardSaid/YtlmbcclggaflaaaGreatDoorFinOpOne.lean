/-
  Arguments that are operations: what they are as values.
  OpOne: the walk.
  OpOne: for every input the law returns true, and each argument reads behind the call as before it: the statement and its card.
  Conditions: none.
-/
import Derived.Test.YtlmbcclggaflaaaGreatDoorBuF
import Derived.OpenShut
import Derived.ChangeSame
import Derived.WideShapes
import Derived.Carry
import Derived.ChangeAt
import Derived.Deep.Slices
import Derived.SizedLaws
import Derived.Test.YtlmbcclggaflaaaGreatDoorBuG
import Derived.Test.YtlmbcclggaflaaaGreatDoorBuB
import Derived.Deep.RegionHeld3
set_option linter.unusedVariables false
namespace Go.Proofs.YtlmbcclggaflaaaGreatDoor
open Go Go.RowKit Go.ChangeShapes Go.WideShapes Go.ChangeAt

theorem cellsInt39 : Tryz.prog.cellsOf 3 = 1 := by kernel_rfl
theorem cellsStr39 : Tryz.prog.cellsOf 9 = 1 := by kernel_rfl
theorem cellsOp39 : Tryz.prog.cellsOf 28 = 5 := by kernel_rfl
/-- The datum of an operation. -/
def opDat (H : Type) (k a b : Int) (x v : ByteArray) : DataW H := .agg [.lit (.int .i64 k), .lit (.int .i64 a), .lit (.int .i64 b), .lit (.string x.data.toList), .lit (.string v.data.toList)]
set_option maxRecDepth 100000 in
theorem op_of_trod {H : Type} {enc : TypeId × Value → H} {W : World} {base : Nat} {sp : Nat → Bool} {held : Bool} {fuel : Nat} {cs : List Value} {x : DataW H × List MemPlace} (h : DataW.trod enc Tryz.prog W base sp held fuel 28 cs = some x) :
    ∃ k a b X V, cs = [.int .i64 k, .int .i64 a, .int .i64 b, .string X, .string V] ∧ (-9223372036854775808 ≤ a ∧ a ≤ 9223372036854775807) ∧ x.1 = opDat H k a b X V := by
  obtain ⟨xs, n, _, hx1, hl, hlen, hfld⟩ := DataW.trod_struct Tryz.underlying28 h
  have hc5 : ∃ c0 c1 c2 c3 c4, cs = [c0, c1, c2, c3, c4] := by
    have hs := hl.trans cellsOp39
    match cs, hs with
    | [c0, c1, c2, c3, c4], _ => exact ⟨c0, c1, c2, c3, c4, rfl⟩
  obtain ⟨c0, c1, c2, c3, c4, rfl⟩ := hc5
  have hx5 : ∃ y0 y1 y2 y3 y4, xs = [y0, y1, y2, y3, y4] := by
    match xs, hlen with
    | [y0, y1, y2, y3, y4], _ => exact ⟨y0, y1, y2, y3, y4, rfl⟩
  obtain ⟨y0, y1, y2, y3, y4, rfl⟩ := hx5
  have one : ∀ (f : Field) (T : TypeId) (c : Value) (y : DataW H × List MemPlace), DataW.trod enc Tryz.prog W base sp held n f.type ((([c0, c1, c2, c3, c4] : List Value).drop f.offset).take (Tryz.prog.cellsOf f.type)) = some y →
      f.type = T → Tryz.prog.cellsOf T = 1 → (([c0, c1, c2, c3, c4] : List Value).drop f.offset).take 1 = [c] → DataW.trod enc Tryz.prog W base sp held n T [c] = some y := by
    intro f T c y h1 ht hc hd
    rw [ht, hc, hd] at h1
    exact h1
  have e0 := one _ 3 c0 y0 (hfld 0 _ rfl) rfl cellsInt39 rfl
  have e1 := one _ 3 c1 y1 (hfld 1 _ rfl) rfl cellsInt39 rfl
  have e2 := one _ 3 c2 y2 (hfld 2 _ rfl) rfl cellsInt39 rfl
  have e3 := one _ 9 c3 y3 (hfld 3 _ rfl) rfl cellsStr39 rfl
  have e4 := one _ 9 c4 y4 (hfld 4 _ rfl) rfl cellsStr39 rfl
  obtain ⟨z0, h0, g0, _⟩ := DataW.trod_int Tryz.underlying3 e0
  obtain ⟨z1, h1, g1, w1⟩ := DataW.trod_int Tryz.underlying3 e1
  obtain ⟨z2, h2, g2, _⟩ := DataW.trod_int Tryz.underlying3 e2
  obtain ⟨z3, h3, g3, _⟩ := DataW.trod_string Tryz.underlying9 e3
  obtain ⟨z4, h4, g4, _⟩ := DataW.trod_string Tryz.underlying9 e4
  injection h0 with h0
  injection h1 with h1
  injection h2 with h2
  injection h3 with h3
  injection h4 with h4
  subst h0 h1 h2 h3 h4 g0 g1 g2 g3 g4
  have e1 : IntKind.i64.min = -9223372036854775808 := rfl
  have e2 : IntKind.i64.max = 9223372036854775807 := rfl
  refine ⟨z0, z1, z2, z3, z4, rfl, by simpa [Lit.wf, e1, e2] using w1, ?_⟩
  rw [hx1]
  rfl
theorem opDat_weights {H : Type} {k a b : Int} {x v : ByteArray} (h : ((opDat H k a b x v).weights Tryz.prog 28).all (· ≤ reachBytes) = true) : x.size ≤ reachBytes ∧ v.size ≤ reachBytes := by
  have hs : ∀ y : ByteArray, y.data.toList.length = y.size := fun y => by rw [Array.length_toList]; rfl
  simpa [opDat, DataW.weights, DataW.weightsEach, Tryz.underlying28, hs] using h
theorem weights_at {H : Type} {P : Program} : ∀ {ts : List TypeId} {ds : List (DataW H)} (_ : (DataW.weightsEach P ts ds).all (· ≤ reachBytes) = true) {j : Nat} {t : TypeId} {d : DataW H} (_ : ts[j]? = some t) (_ : ds[j]? = some d), (d.weights P t).all (· ≤ reachBytes) = true := by
  intro ts ds h j t d ht hd
  rw [List.all_eq_true]
  intro z hz
  exact List.all_eq_true.1 h z (DataW.weights_mem_each ht hd z hz)
/-- What an operation is that is handed in. -/
def opGiven (a : Int) (x v : ByteArray) : Prop := (-9223372036854775808 ≤ a ∧ a ≤ 9223372036854775807) ∧ x.size ≤ reachBytes ∧ v.size ≤ reachBytes
set_option maxRecDepth 100000 in
theorem open_op {H : Type} {enc : TypeId × Value → H} {W : World} {b0 : Nat} {v : Value} {d : DataW H} {ps : List MemPlace} (h : DataW.Trod enc Tryz.prog W 0 (fun _ => true) true 28 v d ps)
    (hv : Value.okWide Tryz.prog W .any b0 28 v) (hw : (d.weights Tryz.prog 28).all (· ≤ reachBytes) = true) : ∃ k a b x y, v = opA k a b x y ∧ opGiven a x y := by
  obtain ⟨cs, rfl, _⟩ := okWide_struct Tryz.underlying28 hv
  obtain ⟨fuel, hf⟩ := h
  obtain ⟨k, a, b, X, V, hcs, hr, hd⟩ := op_of_trod hf
  have hcs' : cs = #[.int .i64 k, .int .i64 a, .int .i64 b, .string X, .string V] := by
    apply Array.ext'
    exact hcs
  subst hcs'
  have hd' : d = opDat H k a b X V := hd
  rw [hd'] at hw
  exact ⟨k, a, b, X, V, rfl, hr, opDat_weights hw⟩
end Go.Proofs.YtlmbcclggaflaaaGreatDoor
namespace Go.Proofs.YtlmbcclggaflaaaGreatDoor
open Go Go.RowKit

theorem update_b (k : Int) (w : World) :
    Calls Tryz.prog 38 #[.int .i64 k] w fun e w' => e = .returned (.bool (updB k)) ∧ Below w.heap.size w w' :=
  (update_any k w).mono fun e w' h => ⟨h.1, h.2 ▸ Below.refl _ _⟩
theorem rupdate_b (k : Int) (w : World) :
    Calls Tryz.prog 39 #[.int .i64 k] w fun e w' => e = .returned (.bool (updB k)) ∧ Below w.heap.size w w' :=
  (rupdate_any k w).mono fun e w' h => ⟨h.1, h.2 ▸ Below.refl _ _⟩
theorem sameB_id (A : Int) (d : Bool) (L : List Int) : sameB A d L A d L = true := by unfold sameB; simp
theorem planOK_len {A : Int} {L : List Int} (h : planOK A L = true) : L.length ≤ 100 := by
  have := planOK_parts h
  omega
theorem plan_both (k a b : Int) (x v : ByteArray) (hf : opFit ⟨k, a, b, x, v⟩) : ∃ (A : Int) (d : Bool) (L : List Int) (E : Int), L.length ≤ 100 ∧
    (∀ m w, Env m w → Calls Tryz.prog 17 #[opA k a b x v] w fun e w' => (∃ s, e = .returned (.tuple #[planV A d s, .int .i64 E]) ∧ IntsNew w.heap.size w' s L) ∧ Below w.heap.size w w') ∧
    (∀ w, Calls Tryz.prog 33 #[opA k a b x v] w fun e w' => (∃ s, e = .returned (.tuple #[planV A d s, .int .i64 E]) ∧ IntsNew w.heap.size w' s L) ∧ Below w.heap.size w w') := by
  by_cases h : opGood ⟨k, a, b, x, v⟩ ∧ k = 7
  · obtain ⟨h, rfl⟩ := h
    have hg := planT_good (o := ⟨7, a, b, x, v⟩) rfl h
    refine ⟨_, _, _, 0, planOK_len hg.2.2.2.2.2, fun m w he => oplan_good a b x v hf h m w he, ?_⟩
    have hb := (good7_range (o := ⟨7, a, b, x, v⟩) rfl h).2.2
    rcases (show b = 0 ∨ b = 1 from hb) with rfl | rfl
    · exact fun w => rplan39_no a x v hf.2.1 hf.2.2 h w
    · exact fun w => rplan39_yes a x v hf.2.1 hf.2.2 h w
  · refine ⟨0, false, [], 2, by simp, fun m w he => ?_, fun w => ?_⟩
    · refine (oplan_bad k a b x v hf h m w he).mono ?_
      rintro e w' ⟨rfl, hb⟩
      exact ⟨⟨_, rfl, IntsNew.nil _ _⟩, hb⟩
    · refine (rplan39_bad k a b x v hf.2.1 hf.2.2 h w).mono ?_
      rintro e w' ⟨rfl, hb⟩
      exact ⟨⟨_, rfl, IntsNew.nil _ _⟩, hb⟩
set_option maxRecDepth 100000 in
theorem small_any (k a b : Int) (x v : ByteArray) (B : Bool) (hB : decide ((x.size : Int) + v.size ≤ 2000) = B) (hx : x.size ≤ reachBytes) (hv : v.size ≤ reachBytes) (w : World) :
    Calls Tryz.prog 31 #[opA k a b x v] w fun e w' => e = .returned (.bool B) ∧ Below w.heap.size w w' := by
  have hadd : wrap64 ((x.size : Int) + v.size) = (x.size : Int) + v.size := by
    have e1 : reachBytes = 140737488351232 := rfl
    rw [e1] at hx hv
    unfold wrap64
    omega
  clear hx hv
  have c1 : Below w.heap.size w (w.alloc (.cells #[.int .i64 k, .int .i64 a, .int .i64 b, .string x, .string v] 28)) := (Below.refl _ _).alloc (Nat.le_refl _) _
  obtain ⟨⟨k0, k1, k2, k3, k4⟩, kf⟩ := OpBox.new w k a b x v 28
  clear kf
  go_enter Tryz.func31, Tryz.ntmps31
  go_wp2_with fail
  go_ret
  exact ⟨rfl, c1⟩
set_option maxRecDepth 100000 in
set_option maxHeartbeats 16000000 in
theorem walkOpOne (k a b : Int) (x v : ByteArray) (hg : opGiven a x v) (n : Int) (_hn : (Lit.int .i64 n).wf = true) (m : Int) (w : World) (ht : Tab w) (he : Errs w) (hm : w.cell? ⟨0, 0, none⟩ = some (.int .i64 m)) :
    Calls Tryz.prog 6 #[opA k a b x v, .int .i64 n] w fun e w' => e = .returned (.bool true) ∧ Below w.heap.size w w' := by
  have HE : Hid (Env m w) := ⟨ht, he, hm⟩
  have HG := Lib.hid hg
  have c1 := Lib.hid ((Below.refl w.heap.size w).alloc (Nat.le_refl _) (.cells #[.int .i64 k, .int .i64 a, .int .i64 b, .string x, .string v] 28))
  have HC := Lib.hid (OpBox.new w k a b x v 28)
  clear ht he hm hg _hn
  by_cases hs : (x.size : Int) + v.size ≤ 2000
  · have HF : Hid (opFit ⟨k, a, b, x, v⟩) := ⟨HG.out.1, by show x.size ≤ _; omega, by show v.size ≤ _; omega⟩
    have HB := Lib.hid (decide_eq_true hs)
    clear hs
    obtain ⟨A, d, L, E, hl, p1, p2⟩ := plan_both k a b x v HF.out
    have HL := Lib.hid hl
    have P1 := Lib.hid p1
    have P2 := Lib.hid p2
    obtain ⟨T, hT⟩ : ∃ T, prT ⟨k, a, b, x, v⟩ = T := ⟨_, rfl⟩
    obtain ⟨R, hR⟩ : ∃ R, prE ⟨k, a, b, x, v⟩ = R := ⟨_, rfl⟩
    have q1 : ∀ m w, Env m w → _ := fun m w he => print_any k a b x v HF.out m w he
    have q2 : ∀ w, _ := fun w => rprint39_any k a b x v HF.out.2.1 HF.out.2.2 w
    have q3 : ∀ m w, Env m w → _ := fun m w he => check_any39 k a b x v HF.out m w he
    have q4 : ∀ w, _ := fun w => rcheck39_any k a b x v HF.out.2.1 HF.out.2.2 w
    rw [hT, hR] at q1 q2
    rw [hR] at q3 q4
    have Q1 := Lib.hid q1
    have Q2 := Lib.hid q2
    have Q3 := Lib.hid q3
    have Q4 := Lib.hid q4
    clear hl p1 p2 q1 q2 q3 q4 hT hR
    obtain ⟨⟨k0, k1, k2, k3, k4⟩, kf⟩ := HC.out
    clear kf
    go_enter Tryz.func6, Tryz.ntmps6
    go_wp2_with fail
    generalize (w.alloc (.cells #[.int .i64 k, .int .i64 a, .int .i64 b, .string x, .string v] 28)) = w0 at *
    refine (small_any k a b x v true HB.out HG.out.2.1 HG.out.2.2 _).mono ?_
    rintro e w1 ⟨rfl, b1⟩
    have c2 := Lib.hid (c1.out.trans (b1.mono c1.out.size))
    clear c1
    have c1 := Lib.hid c2.out
    clear c2
    have hh := Lib.hid (HC.out.below b1)
    clear HC
    have HC := Lib.hid hh.out
    clear hh
    clear b1 k0 k1 k2 k3 k4
    obtain ⟨⟨k0, k1, k2, k3, k4⟩, kf⟩ := HC.out
    clear kf
    go_wp2_with fail
    refine (Q1.out m _ (HE.out.below c1.out)).mono ?_
    rintro e w2 ⟨rfl, b1⟩
    have c2 := Lib.hid (c1.out.trans (b1.mono c1.out.size))
    clear c1
    have c1 := Lib.hid c2.out
    clear c2
    have hh := Lib.hid (HC.out.below b1)
    clear HC
    have HC := Lib.hid hh.out
    clear hh
    clear b1 k0 k1 k2 k3 k4
    obtain ⟨⟨k0, k1, k2, k3, k4⟩, kf⟩ := HC.out
    clear kf
    go_wp2_with fail
    refine (Q2.out _).mono ?_
    rintro e w3 ⟨rfl, b1⟩
    have c2 := Lib.hid (c1.out.trans (b1.mono c1.out.size))
    clear c1
    have c1 := Lib.hid c2.out
    clear c2
    have hh := Lib.hid (HC.out.below b1)
    clear HC
    have HC := Lib.hid hh.out
    clear hh
    clear b1 k0 k1 k2 k3 k4
    obtain ⟨⟨k0, k1, k2, k3, k4⟩, kf⟩ := HC.out
    clear kf
    go_wp2_with fail
    refine (P1.out m _ (HE.out.below c1.out)).mono ?_
    rintro e w4 ⟨⟨s4, rfl, h4⟩, b1⟩
    obtain ⟨p4, n4, rfl⟩ := ownsRow_slice h4
    have c2 := Lib.hid (c1.out.trans (b1.mono c1.out.size))
    clear c1
    have c1 := Lib.hid c2.out
    clear c2
    have hh := Lib.hid (HC.out.below b1)
    clear HC
    have HC := Lib.hid hh.out
    clear hh
    clear b1 k0 k1 k2 k3 k4
    have b1 := (Below.refl w4.heap.size w4).alloc (Nat.le_refl _) (.cells #[.int .i64 A, .bool d, .slice p4 L.length n4] 38)
    have HP := Lib.hid (PlanAt.new w4 A d (.slice p4 L.length n4) 38)
    have HN := Lib.hid (IntsNew.at (IntsNew.below h4 b1))
    have c2 := Lib.hid (c1.out.trans (b1.mono c1.out.size))
    clear c1
    have c1 := Lib.hid c2.out
    clear c2
    have hh := Lib.hid (HC.out.below b1)
    clear HC
    have HC := Lib.hid hh.out
    clear hh
    clear b1 h4
    obtain ⟨⟨k0, k1, k2, k3, k4⟩, kf⟩ := HC.out
    clear kf
    go_wp2_with fail
    generalize (w4.alloc (.cells #[.int .i64 A, .bool d, .slice p4 L.length n4] 38)) = w5 at *
    obtain ⟨DA, hDA⟩ : ∃ DA, w4.heap.size = DA := ⟨_, rfl⟩
    rw [hDA] at HP
    rw [hDA]
    clear hDA
    refine (P2.out _).mono ?_
    rintro e w6 ⟨⟨s6, rfl, h6⟩, b1⟩
    obtain ⟨p6, n6, rfl⟩ := ownsRow_slice h6
    have c2 := Lib.hid (c1.out.trans (b1.mono c1.out.size))
    clear c1
    have c1 := Lib.hid c2.out
    clear c2
    have hh := Lib.hid (HC.out.below b1)
    clear HC
    have HC := Lib.hid hh.out
    clear hh
    have hh := Lib.hid (HP.out.below b1)
    clear HP
    have HP := Lib.hid hh.out
    clear hh
    have hh := Lib.hid (HN.out.below b1)
    clear HN
    have HN := Lib.hid hh.out
    clear hh
    clear b1 k0 k1 k2 k3 k4
    have b1 := (Below.refl w6.heap.size w6).alloc (Nat.le_refl _) (.cells #[.int .i64 A, .bool d, .slice p6 L.length n6] 38)
    have HQ := Lib.hid (PlanAt.new w6 A d (.slice p6 L.length n6) 38)
    have HM := Lib.hid (IntsNew.at (IntsNew.below h6 b1))
    have c2 := Lib.hid (c1.out.trans (b1.mono c1.out.size))
    clear c1
    have c1 := Lib.hid c2.out
    clear c2
    have hh := Lib.hid (HC.out.below b1)
    clear HC
    have HC := Lib.hid hh.out
    clear hh
    have hh := Lib.hid (HP.out.below b1)
    clear HP
    have HP := Lib.hid hh.out
    clear hh
    have hh := Lib.hid (HN.out.below b1)
    clear HN
    have HN := Lib.hid hh.out
    clear hh
    clear b1 h6
    go_upto_region 7 with fail
    generalize (w6.alloc (.cells #[.int .i64 A, .bool d, .slice p6 L.length n6] 38)) = w7 at *
    obtain ⟨DB, hDB⟩ : ∃ DB, w6.heap.size = DB := ⟨_, rfl⟩
    rw [hDB] at HQ
    rw [hDB]
    clear hDB
    clear P1 P2 Q1 Q2 HB HG HF
    obtain ⟨⟨k0, k1, k2, k3, k4⟩, kf⟩ := HC.out
    obtain ⟨⟨p0, p1, p2⟩, pf⟩ := HP.out
    obtain ⟨⟨q0, q1, q2⟩, qf⟩ := HQ.out
    clear kf pf qf HC HP HQ
    have cc := Below.refl w7.heap.size w7
    have he1 : (R == R) = true := beq_self_eq_true _
    have he2 : (E == E) = true := beq_self_eq_true _
    have he3 : (T.toList == T.toList) = true := beq_self_eq_true _
    have he4 : ((pack (wordL n)).toList == (pack (wordL n)).toList) = true := beq_self_eq_true _
    have he5 : ((pack (wordL k)).toList == (pack (wordL k)).toList) = true := beq_self_eq_true _
    have he6 : (updB n == updB n) = true := beq_self_eq_true _
    obtain ⟨WN, hWN⟩ : ∃ WN, pack (wordL n) = WN := ⟨_, rfl⟩
    obtain ⟨WK, hWK⟩ : ∃ WK, pack (wordL k) = WK := ⟨_, rfl⟩
    obtain ⟨UN, hUN⟩ : ∃ UN, updB n = UN := ⟨_, rfl⟩
    rw [hWN] at he4
    rw [hWK] at he5
    rw [hUN] at he6
    have HWN := Lib.hid hWN
    have HWK := Lib.hid hWK
    have HUN := Lib.hid hUN
    clear hWN hWK hUN
    have k0d : w7.drew.cell? ⟨w.heap.size, 0, none⟩ = some (.int .i64 k) := k0
    have k1d : w7.drew.cell? ⟨w.heap.size, 1, none⟩ = some (.int .i64 a) := k1
    have k2d : w7.drew.cell? ⟨w.heap.size, 2, none⟩ = some (.int .i64 b) := k2
    have k3d : w7.drew.cell? ⟨w.heap.size, 3, none⟩ = some (.string x) := k3
    have k4d : w7.drew.cell? ⟨w.heap.size, 4, none⟩ = some (.string v) := k4
    have p0d : w7.drew.cell? ⟨DA, 0, none⟩ = some (.int .i64 A) := p0
    have p1d : w7.drew.cell? ⟨DA, 1, none⟩ = some (.bool d) := p1
    have p2d : w7.drew.cell? ⟨DA, 2, none⟩ = some (.slice p4 L.length n4) := p2
    have q0d : w7.drew.cell? ⟨DB, 0, none⟩ = some (.int .i64 A) := q0
    have q1d : w7.drew.cell? ⟨DB, 1, none⟩ = some (.bool d) := q1
    have q2d : w7.drew.cell? ⟨DB, 2, none⟩ = some (.slice p6 L.length n6) := q2
    have cd := cc.drew
    go_region_held3 (fun w' => (w'.cell? ⟨w.heap.size, 0, none⟩ = some (.int .i64 k) ∧ w'.cell? ⟨w.heap.size, 1, none⟩ = some (.int .i64 a) ∧ w'.cell? ⟨w.heap.size, 2, none⟩ = some (.int .i64 b) ∧ w'.cell? ⟨w.heap.size, 3, none⟩ = some (.string x) ∧ w'.cell? ⟨w.heap.size, 4, none⟩ = some (.string v)) ∧
        (w'.cell? ⟨DA, 0, none⟩ = some (.int .i64 A) ∧ w'.cell? ⟨DA, 1, none⟩ = some (.bool d) ∧ w'.cell? ⟨DA, 2, none⟩ = some (.slice p4 L.length n4)) ∧ (w'.cell? ⟨DB, 0, none⟩ = some (.int .i64 A) ∧ w'.cell? ⟨DB, 1, none⟩ = some (.bool d) ∧ w'.cell? ⟨DB, 2, none⟩ = some (.slice p6 L.length n6)) ∧ Below w7.heap.size w7 w')
      (first
        | with_reducible exact ⟨⟨k0d, k1d, k2d, k3d, k4d⟩, ⟨p0d, p1d, p2d⟩, ⟨q0d, q1d, q2d⟩, cd⟩
        | with_reducible exact ⟨⟨by assumption, by assumption, by assumption, by assumption, by assumption⟩, ⟨by assumption, by assumption, by assumption⟩, ⟨by assumption, by assumption, by assumption⟩, by assumption⟩
        | (go_split_ands; with_reducible exact ⟨⟨cell_kept (by assumption) b1, cell_kept (by assumption) b1, cell_kept (by assumption) b1, cell_kept (by assumption) b1, cell_kept (by assumption) b1⟩, ⟨cell_kept (by assumption) b1, cell_kept (by assumption) b1, cell_kept (by assumption) b1⟩, ⟨cell_kept (by assumption) b1, cell_kept (by assumption) b1, cell_kept (by assumption) b1⟩, Below.trans (by assumption) (b1.mono (Below.size (by assumption)))⟩))
      (first
        | (go_at_call 18; go_split_ands; refine (Q3.out m _ ((HE.out.below c1.out).below (by assumption))).mono ?_; rintro y w8 ⟨rfl, b1⟩)
        | (go_at_call 34; go_split_ands; refine (Q4.out _).mono ?_; rintro y w8 ⟨rfl, b1⟩)
        | (go_at_call 35; go_split_ands; refine (same_any A d _ L A d _ L _ (HN.out.below (by assumption)) (HM.out.below (by assumption)) (by have := HL.out; omega) (by have := HL.out; omega)).mono ?_; rw [sameB_id]; rintro y w8 ⟨rfl, b1⟩)
        | (go_at_call 36; refine (word_any _ _).mono ?_; (first | rw [HWN.out] | rw [HWK.out]); rintro y w8 ⟨rfl, b1⟩)
        | (go_at_call 37; refine (rword_any _ _).mono ?_; (first | rw [HWN.out] | rw [HWK.out]); rintro y w8 ⟨rfl, b1⟩)
        | (go_at_call 38; refine (update_b n _).mono ?_; rw [HUN.out]; rintro y w8 ⟨rfl, b1⟩)
        | (go_at_call 39; refine (rupdate_b n _).mono ?_; rw [HUN.out]; rintro y w8 ⟨rfl, b1⟩)
        | (go_at_call 19; go_split_ands; refine (works39_any m _ ((HE.out.below c1.out).below (by assumption))).mono ?_; rintro y w8 ⟨rfl, b1⟩))
    go_split_ands
    go_wp2_with fail
    go_ret
    exact ⟨rfl, c1.out.trans (Below.mono (by assumption) c1.out.size)⟩
  · have HB := Lib.hid (decide_eq_false hs)
    clear hs
    obtain ⟨⟨k0, k1, k2, k3, k4⟩, kf⟩ := HC.out
    clear kf
    go_enter Tryz.func6, Tryz.ntmps6
    go_wp2_with fail
    generalize (w.alloc (.cells #[.int .i64 k, .int .i64 a, .int .i64 b, .string x, .string v] 28)) = w0 at *
    refine (small_any k a b x v false HB.out HG.out.2.1 HG.out.2.2 _).mono ?_
    rintro e w1 ⟨rfl, b1⟩
    have c2 := Lib.hid (c1.out.trans (b1.mono c1.out.size))
    clear c1
    have c1 := Lib.hid c2.out
    clear c2
    clear b1 k0 k1 k2 k3 k4 HC
    go_wp2_with fail
    refine (works39_any m _ (HE.out.below c1.out)).mono ?_
    rintro e w2 ⟨rfl, b1⟩
    have c2 := Lib.hid (c1.out.trans (b1.mono c1.out.size))
    clear c1
    have c1 := Lib.hid c2.out
    clear c2
    clear b1
    go_wp2_with fail
    go_ret
    exact ⟨rfl, c1.out⟩
end Go.Proofs.YtlmbcclggaflaaaGreatDoor
namespace Go.Proofs.YtlmbcclggaflaaaGreatDoor.lawOpOne
open Go Go.RowKit Go.ChangeShapes Go.WideShapes Go.ChangeAt
open Go.ChangeMaps (open_string shut_string)

set_option maxRecDepth 100000 in
theorem contract (H : Type) (enc : TypeId × Value → H) (W : World) (base : Nat) (args : Array Value) (ds gs : List (DataW H)) (before : List MemPlace)
    (hval : ∀ (j : Nat) t v, Tryz.f6.params[j]? = some t → args[j]? = some v → Value.okWide Tryz.prog W .any base t v)
    (hW : DataW.Whole enc Tryz.prog Tryz.f6.params.toList Rows.opOneSpec.vars false W args.toList ds gs before) (hL : laidMetH Tryz.prog Rows.opOneRow.laid W) (hR : (DataW.weightsEach Tryz.prog (Tryz.f6.params.toList ++ (OpenSpec.ofChange Rows.opOneSpec).bare.plain.varTypes Tryz.prog) (ds ++ gs)).all (· ≤ reachBytes) = true) (hS : W.ShapedOpen Tryz.prog) :
    Calls Tryz.prog 6 args W fun e W' => ∃ v, e = .returned v ∧ Rows.opOneSpec.post enc Tryz.prog Tryz.f6 false true false false W args v W' := by
  have hW' := hW
  obtain ⟨p, q, hA0, hV, rfl, hfz, hnd⟩ := hW
  have hA : DataW.TrodAll enc Tryz.prog W 0 (fun _ => true) true Tryz.f6.params.toList args.toList ds p := hA0
  rw [Tryz.params6] at hA hval
  obtain ⟨v0, vs0, d0, ds0, p0, q0, hargs, rfl, rfl, h0, r0⟩ := trodAll_cons hA
  obtain ⟨v1, vs1, d1, ds1, p1, q1, rfl, rfl, rfl, h1, r1⟩ := trodAll_cons r0
  obtain ⟨rfl, rfl, rfl⟩ := trodAll_nil r1
  obtain rfl : args = #[v0, v1] := by cases args; simp_all
  obtain ⟨rfl, rfl⟩ := trodVars_none hV
  obtain ⟨mL, hm⟩ := maxLen_of hS
  obtain ⟨K0, N0, M0, X0, Y0, rfl, G0⟩ := open_op h0 (hval 0 28 v0 rfl rfl) (weights_at hR (j := 0) rfl rfl)
  obtain ⟨a1, rfl, rfl, rfl, ws1⟩ := open_int Tryz.underlying3 (hval 1 3 v1 rfl rfl) h1
  clear hA0
  simp only [List.append_nil] at hW'
  have hlt := fun x hx => hW'.lt x hx
  refine (walkOpOne K0 N0 M0 X0 Y0 G0 a1 ws1 mL W (tab_of_laid hL) (errs_of_laid hL) hm).mono fun e W' ⟨he, hb⟩ => ?_
  subst he
  refine ⟨_, rfl, _, _, _, [], (p0 ++ ([] ++ [])), [], hW', ?_, ?_, rfl, hb.frame _, fun h => by cases h⟩
  · exact trodAll_cons_mk (shut_bool Tryz.underlying4 _) trodAll_mk0
  · exact trodAll_cons_mk (Below.trod (by kernel_rfl) (by kernel_rfl) (of_decide_eq_true (by kernel_rfl)) h0 hb (fun x hx => by simpa using hlt x (by simp [hx]))) (trodAll_cons_mk (shut_int Tryz.underlying3 ws1) trodAll_mk0)

theorem reads (os : Os) {H : Type} (enc : TypeId × Value → H) : ∃ places, DataW.whole enc Tryz.prog ((laidWorld os).forCall (fun _ _ => 0) ⟨#[], #[.agg #[.int .i64 0, .int .i64 0, .int .i64 0, .string ⟨#[]⟩, .string ⟨#[]⟩], .int .i64 0], []⟩).memory Tryz.f6.params.toList Rows.opOneSpec.vars false (#[.agg #[.int .i64 0, .int .i64 0, .int .i64 0, .string ⟨#[]⟩, .string ⟨#[]⟩], .int .i64 0] : Array Value).toList 8 = some ([.agg [.lit (.int .i64 0), .lit (.int .i64 0), .lit (.int .i64 0), .lit (.string []), .lit (.string [])], .lit (.int .i64 0)], [], places) :=
  ⟨[], by kernel_rfl⟩

set_option maxRecDepth 100000 in
theorem lifted (os : Os) (started : os.Started) (H : Type) (enc : TypeId × Value → H) (F : Stop.Interp) :
    ReturnsInHanded {} Tryz.checked os 6 .any ((OpenSpec.ofChange Rows.opOneSpec).preRow enc Tryz.prog Tryz.f6 Rows.opOneRow.domain false Rows.opOneRow.laid) (((OpenSpec.ofChange Rows.opOneSpec).at F).post enc Tryz.prog Tryz.f6 false true false false) := by
  obtain ⟨places, hx⟩ := reads os enc
  refine returnsInHanded_of_row (C := Tryz.checked) (s := OpenSpec.ofChange Rows.opOneSpec) own started (by kernel_rfl) Tryz.func6
    (witness_row_atRef (enc := enc) (C := Tryz.checked) false (laidWorld os) #[.agg #[.int .i64 0, .int .i64 0, .int .i64 0, .string ⟨#[]⟩, .string ⟨#[]⟩], .int .i64 0] rfl (by kernel_rfl) (by kernel_rfl) (by kernel_rfl)
      (OpenSpec.preRow_of_cond 8 hx (by kernel_rfl) (fun k hk => by cases hk) (by kernel_rfl) (laid_met os _))) ?_
  intro W base args ds gs before hval hW _ _ hR hL hS _
  exact contract H enc W base args ds gs before hval hW hL hR hS

theorem said : Rows.OpOneSaid :=
  OpenClaim.holds_of_cond 6 Tryz.f6 rfl rfl rfl rfl rfl rfl rfl ⟨rfl, rfl, rfl, rfl, rfl⟩ rfl rfl rfl rfl rfl (by kernel_rfl) Tryz.func6 (by kernel_rfl)
    (of_decide_eq_true (by kernel_rfl)) (by unfold Func.isWrapper; first | (rw [if_pos (by decide +kernel)]; kernel_rfl) | (rw [if_neg (by decide +kernel)]; exact ⟨rfl, rfl⟩))
    (fun os started H enc _ F => by rw [OpenClaim.pre_eq_preRow]; exact lifted os started H enc F)

theorem plain (f : FuncId) (fn : Func) (hf : Tryz.pinned.checked.prog.funcNamed Tryz.f6.name = some f) (hfn : Tryz.pinned.checked.prog.funcs[f]? = some fn) :
    true = Tryz.pinned.checked.prog.looks [] ∧ ∀ (j : Nat) t, fn.params[j]? = some t → Tryz.pinned.checked.prog.wantsStandIn t = false := by
  obtain rfl : f = 6 := Option.some.inj ((show Tryz.prog.funcNamed Tryz.f6.name = some 6 by kernel_rfl).symm.trans hf) |>.symm
  obtain rfl : fn = Tryz.f6 := (Option.some.inj (Tryz.func6.symm.trans hfn)).symm
  refine ⟨by kernel_rfl, fun j t ht => ?_⟩
  have key : Tryz.f6.params.all (fun t => !Tryz.prog.wantsStandIn t) = true := by kernel_rfl
  have h2 := Array.all_eq_true_iff_forall_mem.1 key t (Array.mem_of_getElem? ht)
  rw [Bool.not_eq_true'] at h2
  exact h2

theorem proved : Rows.OpOneCardSaid :=
  Claim7.holds_tied_plain_at .later [] _ _ _ _ said (fun _ h => by cases h) (by kernel_rfl) (fun _ h => by cases h) opOne_row_tie rfl ⟨rfl, rfl⟩ (by kernel_rfl) rfl plain (by kernel_rfl)
end Go.Proofs.YtlmbcclggaflaaaGreatDoor.lawOpOne
