/-
  Plans: what the reference's Parse computes.
  Conditions: none.
-/
import Derived.Test.YtoceeegdbnigeaaDoorRfp11
set_option linter.unusedVariables false
namespace Go.Proofs.YtoceeegdbnigeaaDoor
open Go Go.RowKit

theorem PlanAt.set1 {w : World} {B : Nat} {A : Int} {d : Bool} {v : Value} (h : PlanAt w B A d v) (d' : Bool) : PlanAt (w.setCell ⟨B, 1, none⟩ (.bool d')) B A d' v := by
  obtain ⟨⟨h0, h1, h2⟩, h3⟩ := h
  have n1 : (⟨B, 0, none⟩ : Addr) ≠ ⟨B, 1, none⟩ := by intro he; injection he with e1 e2; omega
  have n2 : (⟨B, 2, none⟩ : Addr) ≠ ⟨B, 1, none⟩ := by intro he; injection he with e1 e2; omega
  exact ⟨⟨by rw [World.cell?_setCell_other (h := Ne.symm n1)]; exact h0, World.cell?_setCell_same w ⟨B, 1, none⟩ _ h1, by rw [World.cell?_setCell_other (h := Ne.symm n2)]; exact h2⟩, fun j => by rw [World.frozen?_setCell]; exact h3 j⟩
theorem until_sp (s : ByteArray) (hs : s.size ≤ 1000000) (w : World) (A : Int) (R : ByteArray) (hA : refA s.data.toList = A) (hR : pack (refR s.data.toList) = R) :
    Calls Tryd.prog 47 #[.string s, .int .u8 32] w fun e w' => e = .returned (.tuple #[.int .i64 A, .string R]) ∧ Below w.heap.size w w' := by
  rw [← hA, ← hR]
  exact until_any s hs 32 w
theorem until_co (s : ByteArray) (hs : s.size ≤ 1000000) (w : World) :
    Calls Tryd.prog 47 #[.string s, .int .u8 44] w fun e w' => e = .returned (.tuple #[.int .i64 ((utL 44 0 0 s.data.toList).1 : Int), .string (pack (utL 44 0 0 s.data.toList).2)]) ∧ Below w.heap.size w w' :=
  until_any s hs 44 w
def szOf : Value → Nat
  | .string s => s.size
  | _ => 0
theorem utL_shorter (c : UInt8) (l : List UInt8) (h : l ≠ []) : (utL c 0 0 l).2.length < l.length := by
  cases l with
  | nil => exact absurd rfl h
  | cons b r =>
    unfold utL
    split
    · simp
    · exact Nat.lt_of_le_of_lt (utL_short c r _ _) (by simp)
theorem own_off {w : World} {base C : Nat} {v : Value} {L : List Int} (h : IntsNew base w v L) (hc : C < base) : some C ≠ v.ownBlock := fun e => by
  have := (World.ownsRow.lt h C e.symm).1
  omega
theorem PlanAt.grown {w w' : World} {B : Nat} {A : Int} {d : Bool} {v : Value} {row : Option Nat} (h : PlanAt w B A d v) (hg : w.grownBy w' row) (hn : some B ≠ row) : PlanAt w' B A d v :=
  h.block (hg.block B h.lt hn)
set_option maxRecDepth 100000 in
set_option maxHeartbeats 8000000 in
theorem refParse_any (s : ByteArray) (hs : s.size ≤ 1000000) (w : World) :
    Calls Tryd.prog 23 #[.string s] w fun e w' => parsePost w.heap.size s e w' ∧ Below w.heap.size w w' := by
  have c1 : Below w.heap.size w (w.alloc (.cells #[.int .i64 0, .bool false, .slice none 0 0] 24)) := (Below.refl _ _).alloc (Nat.le_refl _) _
  have c2 : Below w.heap.size w ((w.alloc (.cells #[.int .i64 0, .bool false, .slice none 0 0] 24)).alloc (.cells #[.int .i64 0, .bool false, .slice none 0 0] 24)) := c1.alloc c1.size _
  have a2 : Below (w.alloc (.cells #[.int .i64 0, .bool false, .slice none 0 0] 24)).heap.size (w.alloc (.cells #[.int .i64 0, .bool false, .slice none 0 0] 24)) ((w.alloc (.cells #[.int .i64 0, .bool false, .slice none 0 0] 24)).alloc (.cells #[.int .i64 0, .bool false, .slice none 0 0] 24)) := (Below.refl _ _).alloc (Nat.le_refl _) _
  have hs1 : (w.alloc (.cells #[.int .i64 0, .bool false, .slice none 0 0] 24)).heap.size = w.heap.size + 1 := by simp
  have hs2 : ((w.alloc (.cells #[.int .i64 0, .bool false, .slice none 0 0] 24)).alloc (.cells #[.int .i64 0, .bool false, .slice none 0 0] 24)).heap.size = w.heap.size + 2 := by simp
  have HR0 := Lib.hid ((PlanAt.new w 0 false (.slice none 0 0) 24).below a2)
  have hq := PlanAt.new (w.alloc (.cells #[.int .i64 0, .bool false, .slice none 0 0] 24)) 0 false (.slice none 0 0) 24
  rw [hs1] at hq
  have HP0 := Lib.hid hq
  obtain ⟨A, hA⟩ : ∃ A, refA s.data.toList = A := ⟨_, rfl⟩
  obtain ⟨R, hR⟩ : ∃ R, pack (refR s.data.toList) = R := ⟨_, rfl⟩
  have HA := Lib.hid hA
  have HRR := Lib.hid hR
  have HS := Lib.hid hs
  have hRs : R.size ≤ 1000000 := by
    rw [← hR, pack_size]
    have := utL_short 32 s.data.toList 0 0
    rw [str_len] at this
    exact Nat.le_trans this hs
  have HRS := Lib.hid hRs
  obtain ⟨i0, hi0, hz0, hz1, hz2⟩ := info_parts infoInt
  clear hq a2 c1 hA hs hR hRs
  go_enter Tryd.func23, Tryd.ntmps23
  go_wp2_with fail
  refine (until_sp s HS.out _ A R HA.out HRR.out).mono ?_
  rw [hs2]
  generalize ((w.alloc (.cells #[.int .i64 0, .bool false, .slice none 0 0] 24)).alloc (.cells #[.int .i64 0, .bool false, .slice none 0 0] 24)) = w0 at *
  rintro e w1 ⟨rfl, b1⟩
  rw [← hs2] at b1
  have hp1 := HP0.out.below b1
  have HP1 := Lib.hid hp1
  obtain ⟨⟨p0, p1, p2⟩, pf⟩ := hp1
  have pf0 := pf 0
  have hp2 := HP1.out.set0 A
  have HP2 := Lib.hid hp2
  obtain ⟨⟨q0, q1, q2⟩, qf⟩ := hp2
  have qf1 := qf 1
  have hR : Hid (PlanAt (w1.setCell ⟨w.heap.size + 1, 0, none⟩ (.int .i64 A)) w.heap.size 0 false (.slice none 0 0)) := (HR0.out.below b1).other (by omega) _
  have c3 := below_set (c2.trans (b1.mono c2.size)) (w.heap.size + 1) (by omega) 0 (.int .i64 A)
  have hsw : w.heap.size + 2 ≤ w1.heap.size := by rw [← hs2]; exact b1.size
  clear pf qf b1 c2 hs1 hs2 HR0 HP0 HP1
  by_cases hlen : R.size < 2
  · have d1 : decide ((R.size : Int) < 2) = true := by rw [decide_eq_true_iff]; omega
    have HB : Hid (pA s = 0 ∧ pD s = false ∧ pL s = [] ∧ pE s = 8) := p_bad fun h => by
      have h2 := (ref_good h).1
      rw [← HRR.out, pack_size] at hlen
      omega
    have rr := hR.out
    have HR := Lib.hid rr
    obtain ⟨⟨z0, z1, z2⟩, zf⟩ := rr
    have zf0 := zf 0
    have zf1 := zf 1
    have zf2 := zf 2
    clear zf
    clear hlen
    go_wp2_with fail
    refine bodyPost_ret (results_plan_slot rfl _ _ w.heap.size 0 false (.slice none 0 0) (.int .i64 8) (HR.out.set 0 false (.slice none 0 0)) rfl rfl) rfl ⟨⟨.slice none 0 0, by rw [HB.out.1, HB.out.2.1, HB.out.2.2.2], by rw [HB.out.2.2.1]; exact IntsNew.nil _ _⟩, ?_⟩
    exact below_set (below_set (below_set c3 _ (by omega) 0 _) _ (by omega) 1 _) _ (by omega) 2 _
  · have d1 : decide ((R.size : Int) < 2) = false := by rw [decide_eq_false_iff_not]; omega
    obtain ⟨x, hx⟩ : ∃ x, R.data.toList.getD 0 0 = x := ⟨_, rfl⟩
    have hix := run_str_at (P := Tryd.prog) R 9 Tryd.underlying9 .i64 0 0 rfl (by omega) x hx.symm
    obtain ⟨d, hd⟩ : ∃ d, ((x.toNat : Int) == 121) = d := ⟨_, rfl⟩
    have HD : Hid (refD s.data.toList = d) := by
      show _ = _
      unfold refD
      have e : (refR s.data.toList).getD 0 0 = x := by rw [← hx, ← HRR.out, pack_data]
      rw [e, ← hd]
      by_cases h : x = 121
      · rw [h]; rfl
      · rw [decide_eq_false h]
        symm
        rw [beq_eq_false_iff_ne]
        intro e2
        exact h (UInt8.toNat_inj.mp (by have e3 : (121 : UInt8).toNat = 121 := rfl
                                        omega))
    obtain ⟨R2, hR2⟩ : ∃ R2, (refR s.data.toList).drop 2 = R2 := ⟨_, rfl⟩
    have isl : ∀ wx, (Instr.slice 9 (.string R) (some (.int .i64 2)) none none).run Tryd.prog wx = .ok (.string (pack R2)) wx := fun wx => by
      rw [run_slice_string_l wx 9 R Tryd.underlying9 .i64 2 (by omega) (by omega), show ((2 : Int)).toNat = 2 by omega, ext_from, ← hR2, ← HRR.out, pack_data]
    have HL2 : Hid (R2.length ≤ 1000000) := by
      show _ ≤ _
      rw [← hR2, List.length_drop]
      have := HRS.out
      rw [← HRR.out, pack_size] at this
      omega
    have HK : Hid (refL s.data.toList = kpL 35 R2) := by show _ = _; unfold refL; rw [hR2]
    have HP3 := Lib.hid (HP2.out.set1 d)
    have hR3 : Hid (PlanAt ((w1.setCell ⟨w.heap.size + 1, 0, none⟩ (.int .i64 A)).setCell ⟨w.heap.size + 1, 1, none⟩ (.bool d)) w.heap.size 0 false (.slice none 0 0)) := hR.out.other (by omega) _
    have c4 := below_set c3 (w.heap.size + 1) (by omega) 1 (.bool d)
    have hs4 : ((w1.setCell ⟨w.heap.size + 1, 0, none⟩ (.int .i64 A)).setCell ⟨w.heap.size + 1, 1, none⟩ (.bool d)).heap.size = w1.heap.size := by rw [World.size_setCell, World.size_setCell]
    have HWL : Hid (∃ wL, ((w1.setCell ⟨w.heap.size + 1, 0, none⟩ (.int .i64 A)).setCell ⟨w.heap.size + 1, 1, none⟩ (.bool d)) = wL) := ⟨_, rfl⟩
    clear hlen hx hR2 hR c3
    go_wp2_with fail
    generalize ((w1.setCell ⟨w.heap.size + 1, 0, none⟩ (.int .i64 A)).setCell ⟨w.heap.size + 1, 1, none⟩ (.bool d)) = wL at *
    clear HP2 HWL p0 p1 p2 q0 q1 q2 pf0 qf1 isl hix d1 hd
    rw [← hs4] at hsw
    clear hs4
    go_loopw [6] (fun vr wr => ∃ (r : List UInt8) (v : Value) (acc : List Int), vr = .string (pack r) ∧ Hid (r.length ≤ 1000000) ∧ acc.length ≤ 35 ∧ Hid (kpL 35 R2 = acc ++ kpL (35 - acc.length) r) ∧ Hid (PlanAt wr (w.heap.size + 1) A d v) ∧ Hid (IntsNew (w.heap.size + 2) wr v acc) ∧ Hid (PlanAt wr w.heap.size 0 false (.slice none 0 0)) ∧ Below w.heap.size w wr ∧ w.heap.size + 2 ≤ wr.heap.size) (fun vr _ => szOf vr)
    case atStart => exact ⟨R2, .slice none 0 0, [], rfl, HL2, by simp, (by show _ = _; rfl), HP3, IntsNew.nil _ _, hR3, c4, hsw⟩
    case round =>
      clear HP3 hR3 c4 HL2 hsw
      obtain ⟨r, v, acc, rfl, hrl, hal, hk, hP, hN, hR, c4, hsw⟩ := hrel
      obtain ⟨p', c', rfl⟩ := ownsRow_slice hN.out
      have hp := hP.out
      obtain ⟨⟨p0, p1, p2⟩, pf⟩ := hp
      have pf2 := pf 2
      have hrs : (pack r).size ≤ 1000000 := by rw [pack_size]; exact hrl.out
      by_cases hr0 : r = []
      · have e1 : (pack r).toList.isEmpty = true := isEmpty_true (by rw [hr0]; rfl)
        have HF : Hid (refL s.data.toList = acc) := by show _ = _; rw [HK.out, hk.out, hr0, kpL_nil, List.append_nil]
        clear hr0
        clear hrs hk
        have HI := Lib.hid (IntsNew.at hN.out)
        cases hpk : planOK A acc
        · have HPK := Lib.hid hpk
          have HB : Hid (pA s = 0 ∧ pD s = false ∧ pL s = [] ∧ pE s = 8) := p_bad fun h => by
            obtain ⟨_, g1, g2, g3⟩ := ref_good h
            have g4 := (text_good h).1
            rw [← g1, ← g3, HA.out, HF.out, hpk] at g4
            cases g4
          clear hpk
          go_wp2_with fail
          refine (rText_bad A d _ acc _ HI.out (by omega) HPK.out).mono ?_
          rintro e w3 ⟨rfl, b1⟩
          have hR3 := hR.out.below b1
          have HR3 := Lib.hid hR3
          obtain ⟨⟨z0, z1, z2⟩, zf⟩ := hR3
          have zf0 := zf 0
          have zf1 := zf 1
          have zf2 := zf 2
          have c5 := c4.trans (b1.mono c4.size)
          clear zf b1 c4 p0 p1 p2 pf pf2
          go_wp2_with fail
          refine bodyPost_ret (results_plan_slot rfl _ _ w.heap.size 0 false (.slice none 0 0) (.int .i64 8) (HR3.out.set 0 false (.slice none 0 0)) rfl rfl) rfl ⟨⟨.slice none 0 0, by rw [HB.out.1, HB.out.2.1, HB.out.2.2.2], by rw [HB.out.2.2.1]; exact IntsNew.nil _ _⟩, ?_⟩
          exact below_set (below_set (below_set c5 _ (by omega) 0 _) _ (by omega) 1 _) _ (by omega) 2 _
        · have HPK := Lib.hid hpk
          obtain ⟨T, hT⟩ : ∃ T : ByteArray, T.data.toList = textB A d acc := ⟨pack (textB A d acc), pack_data _⟩
          have HT := Lib.hid hT
          clear hpk
          by_cases hTs : T = s
          · have heq : (T.toList == s.toList) = true := by rw [hTs]; exact beq_self_eq_true _
            have HG : Hid (pA s = A ∧ pD s = d ∧ pL s = acc ∧ pE s = 0) := by
              obtain ⟨h1, h2, h3, h4⟩ := good_text (s := s) HPK.out (by rw [← hTs]; exact hT)
              have h5 := p_good h1
              rw [h2, h3, h4] at h5
              exact h5
            clear hT hTs
            go_wp2_with fail
            refine (rText_good A d _ acc _ HI.out T HPK.out HT.out).mono ?_
            rintro e w3 ⟨rfl, b1⟩
            have hR3 := hR.out.below b1
            have HR3 := Lib.hid hR3
            obtain ⟨⟨z0, z1, z2⟩, zf⟩ := hR3
            have zf0 := zf 0
            have zf1 := zf 1
            have zf2 := zf 2
            have hp3 := hP.out.below b1
            obtain ⟨⟨y0, y1, y2⟩, yf⟩ := hp3
            have HN3 := Lib.hid (hN.out.below b1)
            have c5 := c4.trans (b1.mono c4.size)
            clear zf b1 c4 p0 p1 p2 pf pf2 yf
            go_wp2_with fail
            refine bodyPost_ret (results_plan_slot rfl _ _ w.heap.size A d (.slice p' acc.length c') (.int .i64 0) (HR3.out.set A d (.slice p' acc.length c')) rfl rfl) rfl ⟨⟨.slice p' acc.length c', by rw [HG.out.1, HG.out.2.1, HG.out.2.2.2], ?_⟩, ?_⟩
            · rw [HG.out.2.2.1]
              exact (((HN3.out.set ⟨w.heap.size, 0, none⟩ _ (by simp)).set ⟨w.heap.size, 1, none⟩ _ (by simp)).set ⟨w.heap.size, 2, none⟩ _ (by simp)).base (by omega)
            · exact below_set (below_set (below_set c5 _ (by omega) 0 _) _ (by omega) 1 _) _ (by omega) 2 _
          · have heq : (T.toList == s.toList) = false := is_false (fun h => hTs (by apply ByteArray.ext; apply Array.ext'; rw [h, ByteArray.toList_eq]))
            have HB : Hid (pA s = 0 ∧ pD s = false ∧ pL s = [] ∧ pE s = 8) := p_bad fun h => by
              obtain ⟨_, g1, g2, g3⟩ := ref_good h
              have g4 := (text_good h).2
              rw [← g1, ← g2, ← g3, HA.out, HD.out, HF.out] at g4
              exact hTs (by apply ByteArray.ext; apply Array.ext'; rw [hT, g4])
            clear hT hTs
            go_wp2_with fail
            refine (rText_good A d _ acc _ HI.out T HPK.out HT.out).mono ?_
            rintro e w3 ⟨rfl, b1⟩
            have hR3 := hR.out.below b1
            have HR3 := Lib.hid hR3
            obtain ⟨⟨z0, z1, z2⟩, zf⟩ := hR3
            have zf0 := zf 0
            have zf1 := zf 1
            have zf2 := zf 2
            have c5 := c4.trans (b1.mono c4.size)
            clear zf b1 c4 p0 p1 p2 pf pf2
            go_wp2_with fail
            refine bodyPost_ret (results_plan_slot rfl _ _ w.heap.size 0 false (.slice none 0 0) (.int .i64 8) (HR3.out.set 0 false (.slice none 0 0)) rfl rfl) rfl ⟨⟨.slice none 0 0, by rw [HB.out.1, HB.out.2.1, HB.out.2.2.2], by rw [HB.out.2.2.1]; exact IntsNew.nil _ _⟩, ?_⟩
            exact below_set (below_set (below_set c5 _ (by omega) 0 _) _ (by omega) 1 _) _ (by omega) 2 _
      · have hsz : 0 < (pack r).size := by rw [pack_size]; exact List.length_pos_iff.2 hr0
        have e1 : (pack r).toList.isEmpty = false := isEmpty_false (by omega)
        by_cases h34 : acc.length ≤ 34
        · have d2 : decide ((acc.length : Int) ≤ 34) = true := by rw [decide_eq_true_iff]; omega
          have hu := until_co (pack r) hrs
          rw [pack_data] at hu
          obtain ⟨k, hkk⟩ : ∃ k : Int, ((utL 44 0 0 r).1 : Int) = k := ⟨_, rfl⟩
          obtain ⟨q, hq⟩ : ∃ q, (utL 44 0 0 r).2 = q := ⟨_, rfl⟩
          have hql : q.length < r.length := by rw [← hq]; exact utL_shorter 44 r hr0
          have HQ : Hid (kpL 35 R2 = (acc ++ [k]) ++ kpL (35 - (acc ++ [k]).length) q) := by
            show _ = _
            have e : 35 - acc.length = (35 - (acc ++ [k]).length) + 1 := by simp; omega
            rw [hk.out, e, kpL, if_neg hr0, hkk, hq, List.append_assoc]
            rfl
          rw [hkk, hq] at hu
          have HU := Lib.hid hu
          have hq2 : q.length ≤ 1000000 := by have := hrl.out; omega
          have HQ2 := Lib.hid hq2
          have HQL := Lib.hid hql
          clear hr0 hu hkk hq hql hq2 hk
          go_wp2_with fail
          refine (HU.out _).mono ?_
          rintro e w3 ⟨rfl, b1⟩
          have hp3 := hP.out.below b1
          have HP3 := Lib.hid hp3
          obtain ⟨⟨p0, p1, p2⟩, pf⟩ := hp3
          have pf2 := pf 2
          have hN3 := Lib.hid (hN.out.below b1)
          have hR3 := Lib.hid (hR.out.below b1)
          have c5 := c4.trans (b1.mono c4.size)
          have hsw3 : w.heap.size + 2 ≤ w3.heap.size := Nat.le_trans hsw b1.size
          clear b1 c4 hP hN hR
          go_wp2_with (at_builtin; refine wpList_append_own _ rfl (.tmp 43) (.tmp 45) 22 rfl (w.heap.size + 2) 3 i0 (.int .i64 0) 1 8 Tryd.underlying22 hi0 hz0 hz1 hz2 rfl (by decide) _ _ _ rfl (hN3.out.alloc _) ⟨w3.heap.size, 0, none⟩ 1 1 [.int .i64 k] rfl rfl (cell_one_new _ _ _) (fun q hq => by simp at hq; subst hq; rfl) (by unfold maxLen; omega) (by omega) (by simp; omega) ?_)
          intro v' w4 hown hgrow _
          have HN4 : Hid (IntsNew (w.heap.size + 2) w4 v' (acc ++ [k])) := by
            show World.ownsRow _ _ _ _ _ _ _
            rw [List.map_append, List.length_append]
            exact hown
          obtain ⟨p4, c4', rfl⟩ := ownsRow_slice HN4.out
          have hne1 : some (w.heap.size + 1) ≠ (Value.slice p' acc.length c').ownBlock := own_off hN3.out (by omega)
          have hne0 : some w.heap.size ≠ (Value.slice p' acc.length c').ownBlock := own_off hN3.out (by omega)
          have a3 := (Below.refl w3.heap.size w3).alloc (Nat.le_refl _) (.cells #[.int .i64 k] 3)
          have hp4 := (HP3.out.below a3).grown hgrow hne1
          have HP4 := Lib.hid hp4
          obtain ⟨⟨s0, s1, s2⟩, sf⟩ := hp4
          have sf2 := sf 2
          have HR4 := Lib.hid ((hR3.out.below a3).grown hgrow hne0)
          have c6 : Below w.heap.size w w4 := (c5.alloc c5.size _).grown hgrow (by simp; omega) (fun k hk => by have := (World.ownsRow.lt hN3.out k hk).1; omega)
          have hsw4 : w.heap.size + 2 ≤ w4.heap.size := Nat.le_trans hsw3 (Nat.le_trans a3.size hgrow.size)
          clear hown hgrow hN3 hR3 c5 a3 sf pf p0 p1 p2 pf2 HP3
          go_wp2_with fail
          go_roundw
          case rel =>
            refine ⟨q, _, acc ++ [k], rfl, HQ2, by simp; omega, HQ, HP4.out.set2 _, ?_, HR4.out.other (by omega) _, below_set c6 _ (by omega) 2 _, by rw [World.size_setCell]; exact hsw4⟩
            have h := HN4.out.set ⟨w.heap.size + 1, 2, none⟩ (Value.slice p4 (acc ++ [k]).length c4') (by simp)
            rw [List.length_append] at h
            exact h
          case measure =>
            have := HQL.out
            show (pack q).size < (pack r).size
            rw [pack_size, pack_size]
            exact this
        · have d2 : decide ((acc.length : Int) ≤ 34) = false := by rw [decide_eq_false_iff_not]; omega
          have HF : Hid (refL s.data.toList = acc) := by
            show _ = _
            have e : 35 - acc.length = 0 := by omega
            rw [HK.out, hk.out, e, kpL, List.append_nil]
          clear hr0 h34
          clear hrs hk
          have HI := Lib.hid (IntsNew.at hN.out)
          cases hpk : planOK A acc
          · have HPK := Lib.hid hpk
            have HB : Hid (pA s = 0 ∧ pD s = false ∧ pL s = [] ∧ pE s = 8) := p_bad fun h => by
              obtain ⟨_, g1, g2, g3⟩ := ref_good h
              have g4 := (text_good h).1
              rw [← g1, ← g3, HA.out, HF.out, hpk] at g4
              cases g4
            clear hpk
            go_wp2_with fail
            refine (rText_bad A d _ acc _ HI.out (by omega) HPK.out).mono ?_
            rintro e w3 ⟨rfl, b1⟩
            have hR3 := hR.out.below b1
            have HR3 := Lib.hid hR3
            obtain ⟨⟨z0, z1, z2⟩, zf⟩ := hR3
            have zf0 := zf 0
            have zf1 := zf 1
            have zf2 := zf 2
            have c5 := c4.trans (b1.mono c4.size)
            clear zf b1 c4 p0 p1 p2 pf pf2
            go_wp2_with fail
            refine bodyPost_ret (results_plan_slot rfl _ _ w.heap.size 0 false (.slice none 0 0) (.int .i64 8) (HR3.out.set 0 false (.slice none 0 0)) rfl rfl) rfl ⟨⟨.slice none 0 0, by rw [HB.out.1, HB.out.2.1, HB.out.2.2.2], by rw [HB.out.2.2.1]; exact IntsNew.nil _ _⟩, ?_⟩
            exact below_set (below_set (below_set c5 _ (by omega) 0 _) _ (by omega) 1 _) _ (by omega) 2 _
          · have HPK := Lib.hid hpk
            obtain ⟨T, hT⟩ : ∃ T : ByteArray, T.data.toList = textB A d acc := ⟨pack (textB A d acc), pack_data _⟩
            have HT := Lib.hid hT
            clear hpk
            by_cases hTs : T = s
            · have heq : (T.toList == s.toList) = true := by rw [hTs]; exact beq_self_eq_true _
              have HG : Hid (pA s = A ∧ pD s = d ∧ pL s = acc ∧ pE s = 0) := by
                obtain ⟨h1, h2, h3, h4⟩ := good_text (s := s) HPK.out (by rw [← hTs]; exact hT)
                have h5 := p_good h1
                rw [h2, h3, h4] at h5
                exact h5
              clear hT hTs
              go_wp2_with fail
              refine (rText_good A d _ acc _ HI.out T HPK.out HT.out).mono ?_
              rintro e w3 ⟨rfl, b1⟩
              have hR3 := hR.out.below b1
              have HR3 := Lib.hid hR3
              obtain ⟨⟨z0, z1, z2⟩, zf⟩ := hR3
              have zf0 := zf 0
              have zf1 := zf 1
              have zf2 := zf 2
              have hp3 := hP.out.below b1
              obtain ⟨⟨y0, y1, y2⟩, yf⟩ := hp3
              have HN3 := Lib.hid (hN.out.below b1)
              have c5 := c4.trans (b1.mono c4.size)
              clear zf b1 c4 p0 p1 p2 pf pf2 yf
              go_wp2_with fail
              refine bodyPost_ret (results_plan_slot rfl _ _ w.heap.size A d (.slice p' acc.length c') (.int .i64 0) (HR3.out.set A d (.slice p' acc.length c')) rfl rfl) rfl ⟨⟨.slice p' acc.length c', by rw [HG.out.1, HG.out.2.1, HG.out.2.2.2], ?_⟩, ?_⟩
              · rw [HG.out.2.2.1]
                exact (((HN3.out.set ⟨w.heap.size, 0, none⟩ _ (by simp)).set ⟨w.heap.size, 1, none⟩ _ (by simp)).set ⟨w.heap.size, 2, none⟩ _ (by simp)).base (by omega)
              · exact below_set (below_set (below_set c5 _ (by omega) 0 _) _ (by omega) 1 _) _ (by omega) 2 _
            · have heq : (T.toList == s.toList) = false := is_false (fun h => hTs (by apply ByteArray.ext; apply Array.ext'; rw [h, ByteArray.toList_eq]))
              have HB : Hid (pA s = 0 ∧ pD s = false ∧ pL s = [] ∧ pE s = 8) := p_bad fun h => by
                obtain ⟨_, g1, g2, g3⟩ := ref_good h
                have g4 := (text_good h).2
                rw [← g1, ← g2, ← g3, HA.out, HD.out, HF.out] at g4
                exact hTs (by apply ByteArray.ext; apply Array.ext'; rw [hT, g4])
              clear hT hTs
              go_wp2_with fail
              refine (rText_good A d _ acc _ HI.out T HPK.out HT.out).mono ?_
              rintro e w3 ⟨rfl, b1⟩
              have hR3 := hR.out.below b1
              have HR3 := Lib.hid hR3
              obtain ⟨⟨z0, z1, z2⟩, zf⟩ := hR3
              have zf0 := zf 0
              have zf1 := zf 1
              have zf2 := zf 2
              have c5 := c4.trans (b1.mono c4.size)
              clear zf b1 c4 p0 p1 p2 pf pf2
              go_wp2_with fail
              refine bodyPost_ret (results_plan_slot rfl _ _ w.heap.size 0 false (.slice none 0 0) (.int .i64 8) (HR3.out.set 0 false (.slice none 0 0)) rfl rfl) rfl ⟨⟨.slice none 0 0, by rw [HB.out.1, HB.out.2.1, HB.out.2.2.2], by rw [HB.out.2.2.1]; exact IntsNew.nil _ _⟩, ?_⟩
              exact below_set (below_set (below_set c5 _ (by omega) 0 _) _ (by omega) 1 _) _ (by omega) 2 _
end Go.Proofs.YtoceeegdbnigeaaDoor
