/-
  Plans from numbers: what made computes; when two plans are equal.
  Conditions: none.
-/
import Derived.Test.YtoceeegdbnigeaaDoorWorks11
set_option linter.unusedVariables false
namespace Go.Proofs.YtoceeegdbnigeaaDoor
open Go Go.RowKit

/-- The value v is a slice that reads as the numbers L (of 16 bits) in the world w. -/
def U16At (w : World) (v : Value) (L : List Nat) : Prop :=
  ∃ p c, v = .slice p L.length c ∧ L.length ≤ c ∧ (∀ i, i < L.length → L.getD i 0 < 65536) ∧ (0 < L.length → ∃ b o, p = some ⟨b, o, none⟩ ∧ ∀ i, i < L.length → w.cell? ⟨b, o + i, none⟩ = some (.int .u16 (L.getD i 0 : Int)))
theorem U16At.below {w w' : World} {v : Value} {L : List Nat} (h : U16At w v L) (hb : Below w.heap.size w w') : U16At w' v L := by
  obtain ⟨p, c, hv, hc, hr, hp⟩ := h
  refine ⟨p, c, hv, hc, hr, fun h0 => ?_⟩
  obtain ⟨b, o, h1, h2⟩ := hp h0
  exact ⟨b, o, h1, fun i hi => cell_kept (h2 i hi) hb⟩
theorem addr_zero (p : Option Addr) : p.map (·.add 0) = p := by
  cases p with
  | none => rfl
  | some a =>
    obtain ⟨b, o, sp⟩ := a
    show some (Addr.add _ 0) = _
    unfold Addr.add
    split <;> simp_all
/-- l[:m]. -/
theorem run_upto16 (p : Option Addr) (n c m : Nat) (h : m ≤ c) (wx : World) :
    (Instr.slice 40 (.slice p n c) none (some (.int .i64 (m : Int))) none).run Tryd.prog wx = .ok (.slice p m c) wx := by
  have hs : ∀ w, (Go.sizeOf 41).run Tryd.prog w = .ok 1 w := fun w => by kernel_rfl
  have ht' : Tryd.prog.underlying 40 = some (.slice (Tryd.prog.elem 40)) := by simp [Program.elem, Tryd.underlying40]
  have he : Tryd.prog.elem 40 = 41 := by simp [Program.elem, Tryd.underlying40]
  rw [run_slice_h wx 40 p n c ht' .i64 (m : Int) (by omega) (by omega), he, hs]
  show Result.ok (sliced p 0 (m : Int).toNat c 1) wx = _
  unfold sliced
  rw [Nat.zero_mul, addr_zero]

  simp
def madeK (L : List Nat) : List Int := (L.take 34).map fun n => ((n % 8193 : Nat) : Int)
/-- The numbers of a plan that is made. -/
def madeL (L : List Nat) : List Int := if madeK L = [] then [0] else madeK L
def madeA (at_ : Int) : Int := at_ % 1000001
theorem madeK_mem {L : List Nat} {k : Int} (h : k ∈ madeK L) : 0 ≤ k ∧ k ≤ 8192 := by
  unfold madeK at h
  rw [List.mem_map] at h
  obtain ⟨n, _, rfl⟩ := h
  have := Nat.mod_lt n (show 0 < 8193 by decide)
  omega
theorem madeL_facts (L : List Nat) : 1 ≤ (madeL L).length ∧ (madeL L).length ≤ 34 ∧ ∀ k ∈ madeL L, 0 ≤ k ∧ k ≤ 8192 := by
  unfold madeL
  split
  · refine ⟨by simp, by simp, fun k hk => ?_⟩
    obtain rfl : k = 0 := by simpa using hk
    omega
  · rename_i h
    refine ⟨?_, ?_, fun k hk => madeK_mem hk⟩
    · rcases Nat.eq_zero_or_pos (madeK L).length with h0 | h0
      · exact absurd (List.eq_nil_of_length_eq_zero h0) h
      · exact h0
    · unfold madeK
      rw [List.length_map, List.length_take]
      exact Nat.min_le_left _ _
theorem made_ok {a : Int} (h : 0 ≤ a) (L : List Nat) : planOK (madeA a) (madeL L) = true := by
  obtain ⟨h1, h2, h3⟩ := madeL_facts L
  have h4 := Int.emod_nonneg a (show (1000001 : Int) ≠ 0 by decide)
  have h5 := Int.emod_lt_of_pos a (show (0 : Int) < 1000001 by decide)
  exact planOK_of ⟨h4, by unfold madeA; omega, h1, h2, h3⟩
theorem madeK_snoc (L : List Nat) (i : Nat) (hi : i < L.length) (hm : i < 34) (x : Nat) (hx : L.getD i 0 = x) : (madeK L).take i ++ [((x % 8193 : Nat) : Int)] = (madeK L).take (i + 1) := by
  rw [List.getD, List.getElem?_eq_getElem hi] at hx
  have hM : (madeK L)[i]? = some ((x % 8193 : Nat) : Int) := by
    unfold madeK
    rw [List.getElem?_map, List.getElem?_take, if_pos hm, List.getElem?_eq_getElem hi, ← hx]
    rfl
  rw [List.take_add_one, hM]
  rfl
theorem ints_one (w : World) (x : Int) (t : TypeId) {B : Nat} (hB : B ≤ w.heap.size) : (w.alloc (.cells #[.int .i64 x] 3)).ownsRow B 3 1 (.slice (some ⟨w.heap.size, 0, none⟩) 1 1) 1 ([x].map (Value.int .i64)) :=
  ⟨rfl, .inr ⟨w.heap.size, 1, #[.int .i64 x], rfl, hB, heap_alloc_new w _, Nat.le_refl _, by decide, rfl, rfl⟩⟩
set_option maxRecDepth 100000 in
set_option maxHeartbeats 8000000 in
theorem made_any (a : Int) (ha : 0 ≤ a ∧ a < 4294967296) (d : Bool) (v : Value) (L : List Nat) (w : World) (hv : U16At w v L) :
    Calls Tryd.prog 24 #[.int .u32 a, .bool d, v] w fun e w' => ∃ p c, e = .returned (planV (madeA a) d (.slice p (madeL L).length c)) ∧ IntsNew w.heap.size w' (.slice p (madeL L).length c) (madeL L) ∧ Below w.heap.size w w' := by
  obtain ⟨A, hA⟩ : ∃ A, madeA a = A := ⟨_, rfl⟩
  have hA2 : a % 1000001 = A := hA
  have hA3 : a.tmod 1000001 = A := by rw [Int.tmod_eq_emod_of_nonneg ha.1]; exact hA2
  have hA4 : 0 ≤ A ∧ A ≤ 1000000 := by
    have h4 := Int.emod_nonneg a (show (1000001 : Int) ≠ 0 by decide)
    have h5 := Int.emod_lt_of_pos a (show (0 : Int) < 1000001 by decide)
    omega
  rw [hA]
  have x1 : IntKind.u32.wrap A = A := by rw [IntKind.wrap_u32]; omega
  have x2 : IntKind.i64.wrap A = A := IntWalk.i64_in _ (by omega)
  have c1 : Below w.heap.size w (w.alloc (.cells #[.int .i64 0, .bool false, .slice none 0 0] 24)) := (Below.refl _ _).alloc (Nat.le_refl _) _
  have c2 : Below w.heap.size w ((w.alloc (.cells #[.int .i64 0, .bool false, .slice none 0 0] 24)).alloc (.cells #[.int .i64 A, .bool d, .slice none 0 0] 24)) := c1.alloc c1.size _
  have a2 : Below (w.alloc (.cells #[.int .i64 0, .bool false, .slice none 0 0] 24)).heap.size (w.alloc (.cells #[.int .i64 0, .bool false, .slice none 0 0] 24)) ((w.alloc (.cells #[.int .i64 0, .bool false, .slice none 0 0] 24)).alloc (.cells #[.int .i64 A, .bool d, .slice none 0 0] 24)) := (Below.refl _ _).alloc (Nat.le_refl _) _
  have hs1 : (w.alloc (.cells #[.int .i64 0, .bool false, .slice none 0 0] 24)).heap.size = w.heap.size + 1 := by simp
  have hs2 : ((w.alloc (.cells #[.int .i64 0, .bool false, .slice none 0 0] 24)).alloc (.cells #[.int .i64 A, .bool d, .slice none 0 0] 24)).heap.size = w.heap.size + 2 := by simp
  have HR0 := Lib.hid ((PlanAt.new w 0 false (.slice none 0 0) 24).below a2)
  have hq := PlanAt.new (w.alloc (.cells #[.int .i64 0, .bool false, .slice none 0 0] 24)) A d (.slice none 0 0) 24
  rw [hs1] at hq
  have HP0 := Lib.hid hq
  have HV0 := Lib.hid hv
  obtain ⟨p, c, rfl, hcl, hr16, _⟩ := hv
  obtain ⟨m, hm⟩ : ∃ m : Nat, min L.length 34 = m := ⟨_, rfl⟩
  have hmin : min (L.length : Int) 34 = (m : Int) := by omega
  have hcut := run_upto16 p L.length c m (by omega)
  have hm34 : m ≤ 34 := by omega
  have hmL : m ≤ L.length := by omega
  have hKl : (madeK L).length = m := by unfold madeK; rw [List.length_map, List.length_take]; omega
  have HKl := Lib.hid hKl
  have HR16 := Lib.hid hr16
  obtain ⟨i0, hi0, hz0, hz1, hz2⟩ := info_parts infoInt
  clear hq a2 c1 hA hA2 ha hA4 hm hcl hr16 hKl
  go_enter Tryd.func24, Tryd.ntmps24
  go_wp2_with fail
  generalize ((w.alloc (.cells #[.int .i64 0, .bool false, .slice none 0 0] 24)).alloc (.cells #[.int .i64 A, .bool d, .slice none 0 0] 24)) = w0 at *
  clear x1 x2 hA3 hmin hcut
  have hw0 : w.heap.size + 2 ≤ w0.heap.size := by omega
  go_loopw [21] (fun vi wr => ∃ (i : Nat) (v : Value), i ≤ m ∧ vi = .int .i64 i ∧ Hid (PlanAt wr (w.heap.size + 1) A d v) ∧ Hid (IntsNew (w.heap.size + 2) wr v ((madeK L).take i)) ∧ Hid (PlanAt wr w.heap.size 0 false (.slice none 0 0)) ∧ Below w.heap.size w wr ∧ w.heap.size + 2 ≤ wr.heap.size) (fun vi _ => m - (intOf vi).toNat)
  case atStart => exact ⟨0, .slice none 0 0, Nat.zero_le _, rfl, HP0, IntsNew.nil _ _, HR0, c2, hw0⟩
  case round =>
    clear HP0 HR0 c2 hs2 hw0
    obtain ⟨i, v, hi, rfl, hP, hN, hR, c4, hsw⟩ := hrel
    have hV := HV0.out.below c4
    obtain ⟨q', n', rfl⟩ := ownsRow_slice hN.out
    have htl : ((madeK L).take i).length = i := by rw [List.length_take, HKl.out]; omega
    by_cases hlt : i < m
    · obtain ⟨_, _, he, _, _, hcell⟩ := hV
      injection he with e1 _ e2
      subst e1 e2
      obtain ⟨b, o, rfl, hci⟩ := hcell (by omega)
      have hcx := hci i (by omega)
      obtain ⟨x, hx⟩ : ∃ x, L.getD i 0 = x := ⟨_, rfl⟩
      have hx6 : x < 65536 := by rw [← hx]; exact HR16.out i (by omega)
      have hsn := madeK_snoc L i (by omega) (by omega) x hx
      rw [hx] at hcx
      obtain ⟨y, hy⟩ : ∃ y : Nat, x % 8193 = y := ⟨_, rfl⟩
      rw [hy] at hsn
      have y1 : IntKind.i64.wrap (x : Int) = (x : Int) := IntWalk.i64_in _ (by omega)
      have y2 : (x : Int).tmod 8193 = (y : Int) := by rw [Int.tmod_eq_emod_of_nonneg (by omega)]; omega
      have y3 : (x : Int) % 8193 = (y : Int) := by omega
      have y4 : IntKind.i64.wrap (y : Int) = (y : Int) := IntWalk.i64_in _ (by omega)
      have HSn := Lib.hid hsn
      have hp := hP.out
      obtain ⟨⟨p0, p1, p2⟩, pf⟩ := hp
      rw [htl] at p2
      have hown0 : wr.ownsRow (w.heap.size + 2) 3 1 (.slice q' i n') i (((madeK L).take i).map (Value.int .i64)) := by
        have h := hN.out
        unfold IntsNew at h
        rw [htl] at h
        exact h
      have HO := Lib.hid hown0
      clear hcell hci hx hx6 hy hsn hown0 pf
      go_wp2_with (at_builtin; refine wpList_append_own _ rfl (.tmp 26) (.tmp 30) 22 rfl (w.heap.size + 2) 3 i0 (.int .i64 0) 1 8 Tryd.underlying22 hi0 hz0 hz1 hz2 rfl (by decide) _ _ _ rfl (HO.out.alloc _) ⟨wr.heap.size, 0, none⟩ 1 1 [.int .i64 (y : Int)] rfl rfl (cell_one_new _ _ _) (fun q hq => by simp at hq; subst hq; rfl) (by unfold maxLen; omega) (by omega) (by simp; omega) ?_)
      intro v' w4 hown hgrow _
      have HN4 : Hid (IntsNew (w.heap.size + 2) w4 v' ((madeK L).take (i + 1))) := by
        show World.ownsRow _ _ _ _ _ _ _
        rw [← HSn.out, List.map_append, List.length_append, htl]
        have h := hown
        rw [← List.map_take] at h
        exact h
      obtain ⟨p4, c4', rfl⟩ := ownsRow_slice HN4.out
      have hne1 : some (w.heap.size + 1) ≠ (Value.slice q' i n').ownBlock := fun e => by have := (World.ownsRow.lt HO.out _ e.symm).1; omega
      have hne0 : some w.heap.size ≠ (Value.slice q' i n').ownBlock := fun e => by have := (World.ownsRow.lt HO.out _ e.symm).1; omega
      have a3 := (Below.refl wr.heap.size wr).alloc (Nat.le_refl _) (.cells #[.int .i64 (y : Int)] 3)
      have hp4 := (hP.out.below a3).grown hgrow hne1
      have HP4 := Lib.hid hp4
      obtain ⟨⟨s0, s1, s2⟩, sf⟩ := hp4
      have sf2 := sf 2
      have HR4 := Lib.hid ((hR.out.below a3).grown hgrow hne0)
      have c6 : Below w.heap.size w w4 := (c4.alloc c4.size _).grown hgrow (by simp; omega) (fun k hk => by have := (World.ownsRow.lt HO.out k hk).1; omega)
      have hsw4 : w.heap.size + 2 ≤ w4.heap.size := Nat.le_trans hsw (Nat.le_trans a3.size hgrow.size)
      clear hown hgrow a3 sf p0 p1 p2 HO
      go_wp2_with fail
      go_roundw
      case rel =>
        refine ⟨i + 1, _, by omega, by go_num, HP4.out.set2 _, ?_, HR4.out.other (by omega) _, below_set c6 _ (by omega) 2 _, by rw [World.size_setCell]; exact hsw4⟩
        have h := HN4.out.set ⟨w.heap.size + 1, 2, none⟩ (Value.slice p4 ((madeK L).take (i + 1)).length c4') (by simp)
        rw [List.length_take] at h
        exact h
      case measure => simp [intOf]; omega
    · obtain rfl : i = m := by omega
      have hk : (madeK L).take i = madeK L := List.take_of_length_le (by rw [HKl.out]; exact Nat.le_refl _)
      rw [hk] at hP hN
      rw [HKl.out] at hP hN
      have hp := hP.out
      obtain ⟨⟨p0, p1, p2⟩, pf⟩ := hp
      have pf2 := pf 2
      have hr0 := hR.out
      obtain ⟨⟨r0, r1, r2⟩, rf⟩ := hr0
      have rf0 := rf 0
      have rf1 := rf 1
      have rf2 := rf 2
      clear htl hk hlt hi pf rf hV
      by_cases hz : i = 0
      · subst hz
        have hfin : madeL L = [0] := by
          unfold madeL
          rw [if_pos (List.eq_nil_of_length_eq_zero HKl.out)]
        have HF := Lib.hid hfin
        have a3 := (Below.refl wr.heap.size wr).alloc (Nat.le_refl _) (.cells #[.int .i64 0] 3)
        have c5 := c4.alloc c4.size (.cells #[.int .i64 0] 3)
        have hpa := hP.out.below a3
        have HPa := Lib.hid (hpa.set2 (.slice (some ⟨wr.heap.size, 0, none⟩) 1 1))
        obtain ⟨⟨t0, t1, t2⟩, tf⟩ := hpa
        have tf2 := tf 2
        obtain ⟨⟨u0, u1, u2⟩, uf⟩ := HPa.out
        have HRa := Lib.hid ((hR.out.below a3).other (C := w.heap.size + 1) (j := 2) (by omega) (.slice (some ⟨wr.heap.size, 0, none⟩) 1 1))
        obtain ⟨⟨z0, z1, z2⟩, zf⟩ := HRa.out
        have zf0 := zf 0
        have zf1 := zf 1
        have zf2 := zf 2
        have c6 := below_set c5 (w.heap.size + 1) (by omega) 2 (.slice (some ⟨wr.heap.size, 0, none⟩) 1 1)
        have HN6 : Hid (IntsNew (w.heap.size + 2) ((wr.alloc (.cells #[.int .i64 0] 3)).setCell ⟨w.heap.size + 1, 2, none⟩ (.slice (some ⟨wr.heap.size, 0, none⟩) 1 1)) (.slice (some ⟨wr.heap.size, 0, none⟩) 1 1) [0]) :=
          IntsNew.set (ints_one wr 0 3 hsw) ⟨w.heap.size + 1, 2, none⟩ _ (by simp)
        clear hfin a3 c4 c5 tf uf zf hN hP hR p0 p1 pf2 r0 r1 r2 rf0 rf1 rf2
        go_wp2_with fail
        refine bodyPost_ret (results_plan rfl _ _ w.heap.size A d (.slice (some ⟨wr.heap.size, 0, none⟩) 1 1) (HRa.out.set A d (.slice (some ⟨wr.heap.size, 0, none⟩) 1 1)) rfl) rfl ⟨some (⟨wr.heap.size, 0, none⟩ : Addr), 1, by rw [HF.out]; rfl, ?_, ?_⟩
        · rw [HF.out]
          exact (((HN6.out.set ⟨w.heap.size, 0, none⟩ _ (by simp)).set ⟨w.heap.size, 1, none⟩ _ (by simp)).set ⟨w.heap.size, 2, none⟩ _ (by simp)).base (by omega)
        · exact below_set (below_set (below_set c6 _ (by omega) 0 _) _ (by omega) 1 _) _ (by omega) 2 _
      · have hfin : madeL L = madeK L := by
          unfold madeL
          rw [if_neg]
          intro h0
          rw [h0] at HKl
          exact hz HKl.out.symm
        have HF := Lib.hid hfin
        have dz : ((i : Int) == 0) = false := by rw [beq_eq_false_iff_ne]; omega
        clear hfin hz
        go_wp2_with fail
        refine bodyPost_ret (results_plan rfl _ _ w.heap.size A d (.slice q' i n') (hR.out.set A d (.slice q' i n')) rfl) rfl ⟨q', n', by rw [HF.out, HKl.out], ?_, ?_⟩
        · rw [HF.out, HKl.out]
          exact (((hN.out.set ⟨w.heap.size, 0, none⟩ _ (by simp)).set ⟨w.heap.size, 1, none⟩ _ (by simp)).set ⟨w.heap.size, 2, none⟩ _ (by simp)).base (by omega)
        · exact below_set (below_set (below_set c4 _ (by omega) 0 _) _ (by omega) 1 _) _ (by omega) 2 _
end Go.Proofs.YtoceeegdbnigeaaDoor
