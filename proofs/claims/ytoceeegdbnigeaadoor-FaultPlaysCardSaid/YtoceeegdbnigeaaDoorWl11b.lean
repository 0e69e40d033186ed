/-
  FaultPlans: the walk.
  Conditions: the library's tables and variables lie in the world.
-/
import Derived.Test.YtoceeegdbnigeaaDoorWl11a
import Derived.Deep.RegionHeld3
set_option linter.unusedVariables false
namespace Go.Proofs.YtoceeegdbnigeaaDoor
open Go Go.RowKit

theorem text_both (A : Int) (d : Bool) (L : List Int) (hl : L.length ≤ 100) : ∃ (r : ByteArray) (er : Int),
    (∀ v w, IntsAt w v L → Tab w → Calls Tryd.prog 15 #[planV A d v] w fun x w' => x = .returned (.tuple #[.string r, .int .i64 er]) ∧ Below w.heap.size w w') ∧
    (∀ v w, IntsAt w v L → Calls Tryd.prog 16 #[planV A d v] w fun x w' => x = .returned (.tuple #[.string r, .int .i64 er]) ∧ Below w.heap.size w w') := by
  cases hp : planOK A L
  · exact ⟨⟨#[]⟩, 2, fun v w hv _ => fText_bad A d v L w hv (by omega) hp, fun v w hv => rText_bad A d v L w hv (by omega) hp⟩
  · exact ⟨pack (textB A d L), 0, fun v w hv ht => fText_good A d v L w hv ht _ hp (pack_data _), fun v w hv => rText_good A d v L w hv _ hp (pack_data _)⟩
theorem keep_both (A : Int) (d : Bool) (L : List Int) (slot u : Int) (hl : L.length ≤ 100) : ∃ (r er : Int),
    (∀ v w, IntsAt w v L → Calls Tryd.prog 17 #[planV A d v, .int .i64 slot, .int .i64 u] w fun x w' => x = .returned (.tuple #[.int .i64 r, .int .i64 er]) ∧ Below w.heap.size w w') ∧
    (∀ v w, IntsAt w v L → Calls Tryd.prog 18 #[planV A d v, .int .i64 slot, .int .i64 u] w fun x w' => x = .returned (.tuple #[.int .i64 r, .int .i64 er]) ∧ Below w.heap.size w w') := by
  cases hp : planOK A L
  · exact ⟨0, 2, fun v w hv => fkeep_bad A d v L slot u w hv (by omega) hp, fun v w hv => rkeep_bad A d v L slot u w hv (by omega) hp⟩
  · by_cases h1 : u < 0
    · exact ⟨0, 2, fun v w hv => fkeep_good A d v L slot u 0 2 w hv hp (Or.inl ⟨h1, rfl, rfl⟩), fun v w hv => rkeep_good A d v L slot u 0 2 w hv hp (Or.inl ⟨h1, rfl, rfl⟩)⟩
    · by_cases h2 : slot < 0
      · exact ⟨0, 3, fun v w hv => fkeep_good A d v L slot u 0 3 w hv hp (Or.inr (Or.inl ⟨by omega, h2, rfl, rfl⟩)), fun v w hv => rkeep_good A d v L slot u 0 3 w hv hp (Or.inr (Or.inl ⟨by omega, h2, rfl, rfl⟩))⟩
      · exact ⟨_, 0, fun v w hv => fkeep_good A d v L slot u _ 0 w hv hp (Or.inr (Or.inr ⟨by omega, by omega, rfl, rfl⟩)), fun v w hv => rkeep_good A d v L slot u _ 0 w hv hp (Or.inr (Or.inr ⟨by omega, by omega, rfl, rfl⟩))⟩
theorem short_any (A : Int) (d : Bool) (v : Value) (L : List Int) (b : Bool) (hb : decide (L.length ≤ 100) = b) (w : World) (hv : IntsAt w v L) :
    Calls Tryd.prog 12 #[planV A d v] w fun e w' => e = .returned (.bool b) ∧ Below w.heap.size w w' := by
  obtain ⟨p, c, rfl, _, _⟩ := hv
  have d1 : decide ((L.length : Int) ≤ 100) = b := by
    rw [← hb, decide_eq_decide]
    omega
  have c1 : Below w.heap.size w (w.alloc (.cells #[.int .i64 A, .bool d, .slice p L.length c] 24)) := (Below.refl _ _).alloc (Nat.le_refl _) _
  obtain ⟨k0, k1, k2⟩ := planAt_new w A d (.slice p L.length c) 24
  clear hb
  go_enter Tryd.func12, Tryd.ntmps12
  go_wp2_with fail
  go_ret
  exact ⟨rfl, c1⟩
theorem plans_b {w w2 : World} {A : Int} {d : Bool} {p : Option Addr} {c : Nat} {L : List Int} {B C : Nat} (q : Option Addr) (n : Nat) (hn : IntsNew B w2 (.slice q L.length n) L) (hp : PlanAt w2 C 0 false (.slice none 0 0)) (hwC : w.heap.size < C) (hCB : C < B)
    (j0 : w2.cell? ⟨w.heap.size, 0, none⟩ = some (.int .i64 A)) (j1 : w2.cell? ⟨w.heap.size, 1, none⟩ = some (.bool d)) (j2 : w2.cell? ⟨w.heap.size, 2, none⟩ = some (.slice p L.length c)) (cB : Below w.heap.size w w2) :
    ∃ C' q' n', Value.pointer (some ⟨C, 0, none⟩) = .pointer (some ⟨C', 0, none⟩) ∧ (((w2.setCell ⟨C, 0, none⟩ (.int .i64 A)).setCell ⟨C, 1, none⟩ (.bool d)).setCell ⟨C, 2, none⟩ (.slice q L.length n)).cell? ⟨C', 0, none⟩ = some (.int .i64 A) ∧ (((w2.setCell ⟨C, 0, none⟩ (.int .i64 A)).setCell ⟨C, 1, none⟩ (.bool d)).setCell ⟨C, 2, none⟩ (.slice q L.length n)).cell? ⟨C', 1, none⟩ = some (.bool d) ∧ (((w2.setCell ⟨C, 0, none⟩ (.int .i64 A)).setCell ⟨C, 1, none⟩ (.bool d)).setCell ⟨C, 2, none⟩ (.slice q L.length n)).cell? ⟨C', 2, none⟩ = some (.slice q' L.length n') ∧ Hid (IntsAt (((w2.setCell ⟨C, 0, none⟩ (.int .i64 A)).setCell ⟨C, 1, none⟩ (.bool d)).setCell ⟨C, 2, none⟩ (.slice q L.length n)) (.slice q' L.length n') L) ∧
      (((w2.setCell ⟨C, 0, none⟩ (.int .i64 A)).setCell ⟨C, 1, none⟩ (.bool d)).setCell ⟨C, 2, none⟩ (.slice q L.length n)).cell? ⟨w.heap.size, 0, none⟩ = some (.int .i64 A) ∧ (((w2.setCell ⟨C, 0, none⟩ (.int .i64 A)).setCell ⟨C, 1, none⟩ (.bool d)).setCell ⟨C, 2, none⟩ (.slice q L.length n)).cell? ⟨w.heap.size, 1, none⟩ = some (.bool d) ∧ (((w2.setCell ⟨C, 0, none⟩ (.int .i64 A)).setCell ⟨C, 1, none⟩ (.bool d)).setCell ⟨C, 2, none⟩ (.slice q L.length n)).cell? ⟨w.heap.size, 2, none⟩ = some (.slice p L.length c) ∧ Below w.heap.size w (((w2.setCell ⟨C, 0, none⟩ (.int .i64 A)).setCell ⟨C, 1, none⟩ (.bool d)).setCell ⟨C, 2, none⟩ (.slice q L.length n)) := by
  have h := hp.set A d (.slice q L.length n)
  have hb := set3_heap w2 C w.heap.size (by omega) (.int .i64 A) (.bool d) (.slice q L.length n)
  refine ⟨C, q, n, rfl, h.1.1, h.1.2.1, h.1.2.2, Lib.hid (IntsNew.at (((hn.set ⟨C, 0, none⟩ _ hCB).set ⟨C, 1, none⟩ _ hCB).set ⟨C, 2, none⟩ _ hCB)), (World.cell?_of_block hb).trans j0, (World.cell?_of_block hb).trans j1, (World.cell?_of_block hb).trans j2, ?_⟩
  exact below_set (below_set (below_set cB C (by omega) 0 _) C (by omega) 1 _) C (by omega) 2 _
set_option maxRecDepth 100000 in
set_option maxHeartbeats 8000000 in
theorem walkFaultPlans (A : Int) (d : Bool) (v : Value) (L : List Int) (slot : Int) (_hs : (Lit.int .i64 slot).wf = true) (u : Int) (_hu : (Lit.int .i64 u).wf = true) (m : Int) (w : World) (hv : IntsAt w v L) (ht : Tab w) (he : Errs w) (hm : w.cell? ⟨0, 0, none⟩ = some (.int .i64 m)) :
    Calls Tryd.prog 3 #[planV A d v, .int .i64 slot, .int .i64 u] w fun e w' => e = .returned (.bool true) ∧ Below w.heap.size w w' := by
  have HT := Lib.hid ht
  have HE := Lib.hid he
  have HM := Lib.hid hm
  have HV := Lib.hid hv
  obtain ⟨p, c, rfl, _, _⟩ := hv
  have c1 : Below w.heap.size w (w.alloc (.cells #[.int .i64 A, .bool d, .slice p L.length c] 24)) := (Below.refl _ _).alloc (Nat.le_refl _) _
  obtain ⟨k0, k1, k2⟩ := planAt_new w A d (.slice p L.length c) 24
  clear ht he hm _hs _hu
  by_cases hL : L.length ≤ 100
  · have HL := Lib.hid hL
    obtain ⟨r, er, t1, t2⟩ := text_both A d L hL
    obtain ⟨x, ex, s1, s2⟩ := keep_both A d L slot u hL
    have T1 := Lib.hid t1
    have T2 := Lib.hid t2
    have S1 := Lib.hid s1
    have S2 := Lib.hid s2
    have hb := decide_eq_true hL
    have HB := Lib.hid hb
    clear t1 t2 s1 s2 hL hb
    go_enter Tryd.func3, Tryd.ntmps3
    go_wp2_with fail
    refine (short_any A d _ L true HB.out _ (HV.out.below c1)).mono ?_
    rintro y w1 ⟨rfl, b1⟩
    replace k0 := cell_kept k0 b1
    replace k1 := cell_kept k1 b1
    replace k2 := cell_kept k2 b1
    have c2 := c1.trans (b1.mono c1.size); clear c1 b1
    have c1 := c2; clear c2
    go_wp2_with fail
    go_cut [7] from 20 to 27 (fun a wx => ∃ C q n, a = .pointer (some ⟨C, 0, none⟩) ∧ wx.cell? ⟨C, 0, none⟩ = some (.int .i64 A) ∧ wx.cell? ⟨C, 1, none⟩ = some (.bool d) ∧ wx.cell? ⟨C, 2, none⟩ = some (.slice q L.length n) ∧ Hid (IntsAt wx (.slice q L.length n) L) ∧ wx.cell? ⟨w.heap.size, 0, none⟩ = some (.int .i64 A) ∧ wx.cell? ⟨w.heap.size, 1, none⟩ = some (.bool d) ∧ wx.cell? ⟨w.heap.size, 2, none⟩ = some (.slice p L.length c) ∧ Below w.heap.size w wx)
    case first =>
      have k0d : w1.drew.cell? ⟨w.heap.size, 0, none⟩ = some (.int .i64 A) := k0
      have k1d : w1.drew.cell? ⟨w.heap.size, 1, none⟩ = some (.bool d) := k1
      have k2d : w1.drew.cell? ⟨w.heap.size, 2, none⟩ = some (.slice p L.length c) := k2
      have cd := c1.drew
      have a1 := (Below.refl w1.heap.size w1).alloc (Nat.le_refl _) (.cells #[.int .i64 0, .bool false, .slice none 0 0] 24)
      have l0 : (w1.alloc (.cells #[.int .i64 0, .bool false, .slice none 0 0] 24)).drew.cell? ⟨w.heap.size, 0, none⟩ = some (.int .i64 A) := cell_kept k0 a1.drew
      have l1 : (w1.alloc (.cells #[.int .i64 0, .bool false, .slice none 0 0] 24)).drew.cell? ⟨w.heap.size, 1, none⟩ = some (.bool d) := cell_kept k1 a1.drew
      have l2 : (w1.alloc (.cells #[.int .i64 0, .bool false, .slice none 0 0] 24)).drew.cell? ⟨w.heap.size, 2, none⟩ = some (.slice p L.length c) := cell_kept k2 a1.drew
      have ce : Below w.heap.size w (w1.alloc (.cells #[.int .i64 0, .bool false, .slice none 0 0] 24)).drew := (c1.alloc c1.size _).drew
      clear T1 T2 S1 S2 HB HT HE HM k0 k1 k2
      have HZ : Hid (PlanAt (w1.alloc (.cells #[.int .i64 0, .bool false, .slice none 0 0] 24)).drew w1.heap.size 0 false (.slice none 0 0)) := PlanAt.new w1 0 false (.slice none 0 0) 24
      have HK : Hid (w.heap.size < w1.heap.size) := World.block_lt_of_cell? _ _ k0d
      go_region_with (go_at_call 14; first | (refine (clone_any _ L _ (HV.out.below cd) (by have := HL.out; omega)).mono ?_; rintro y w2 ⟨v2, rfl, hn, b1⟩; obtain ⟨q, n, rfl⟩ := ownsRow_slice hn; have j0 := cell_kept k0d b1; have j1 := cell_kept k1d b1; have j2 := cell_kept k2d b1; have i0 := cell_old (o := .cells #[.int .i64 0, .bool false, .slice none 0 0] 24) j0; have i1 := cell_old (o := .cells #[.int .i64 0, .bool false, .slice none 0 0] 24) j1; have i2 := cell_old (o := .cells #[.int .i64 0, .bool false, .slice none 0 0] 24) j2; have cA := cd.trans (b1.mono cd.size)) | (refine (clone_any _ L _ (HV.out.below ce) (by have := HL.out; omega)).mono ?_; rintro y w2 ⟨v2, rfl, hn, b1⟩; obtain ⟨q, n, rfl⟩ := ownsRow_slice hn; have j0 := cell_kept l0 b1; have j1 := cell_kept l1 b1; have j2 := cell_kept l2 b1; have cB := ce.trans (b1.mono ce.size); have HP2 := Lib.hid (HZ.out.below b1); obtain ⟨⟨p0, p1, p2⟩, pf⟩ := HZ.out.below b1; have pf0 := pf 0; have pf1 := pf 1; have pf2 := pf 2))
      all_goals
        go_wp2_with fail
        go_meet
        first
          | exact ⟨_, q, n, rfl, (PlanAt.new w2 A d (.slice q L.length n) 24).1.1, (PlanAt.new w2 A d (.slice q L.length n) 24).1.2.1, (PlanAt.new w2 A d (.slice q L.length n) 24).1.2.2, Lib.hid (IntsAt.below (IntsNew.at hn) ((Below.refl _ _).alloc (Nat.le_refl _) _)), cell_old j0, cell_old j1, cell_old j2, cA.alloc cA.size _⟩
          | exact plans_b q n hn HP2.out HK.out (by simp) j0 j1 j2 cB
    case rest =>
      obtain ⟨C, q, n, rfl, q0, q1, q2, HQ, k0, k1, k2, c1⟩ := hcut
      have cc := Below.refl wc.heap.size wc
      have HC := Lib.hid c1
      clear c1
      have c1 := cc
      clear cc
      have he1 : (planE A L == planE A L) = true := beq_self_eq_true _
      have he2 : (r.toList == r.toList) = true := beq_self_eq_true _
      have he3 : (er == er) = true := beq_self_eq_true _
      have he4 : (x == x) = true := beq_self_eq_true _
      have he5 : (ex == ex) = true := beq_self_eq_true _
      go_wp2_with fail
      refine (T1.out _ _ ((HV.out.below HC.out).below c1) ((HT.out.below HC.out).below c1)).mono ?_
      rintro y w1 ⟨rfl, b1⟩
      replace k0 := cell_kept k0 b1
      replace k1 := cell_kept k1 b1
      replace k2 := cell_kept k2 b1
      replace q0 := cell_kept q0 b1
      replace q1 := cell_kept q1 b1
      replace q2 := cell_kept q2 b1
      have c2 := c1.trans (b1.mono c1.size); clear c1 b1
      have c1 := c2; clear c2
      go_wp2_with fail
      refine (T2.out _ _ (HQ.out.below c1)).mono ?_
      rintro y w1 ⟨rfl, b1⟩
      replace k0 := cell_kept k0 b1
      replace k1 := cell_kept k1 b1
      replace k2 := cell_kept k2 b1
      replace q0 := cell_kept q0 b1
      replace q1 := cell_kept q1 b1
      replace q2 := cell_kept q2 b1
      have c2 := c1.trans (b1.mono c1.size); clear c1 b1
      have c1 := c2; clear c2
      go_wp2_with fail
      refine (S1.out _ _ ((HV.out.below HC.out).below c1)).mono ?_
      rintro y w1 ⟨rfl, b1⟩
      replace k0 := cell_kept k0 b1
      replace k1 := cell_kept k1 b1
      replace k2 := cell_kept k2 b1
      replace q0 := cell_kept q0 b1
      replace q1 := cell_kept q1 b1
      replace q2 := cell_kept q2 b1
      have c2 := c1.trans (b1.mono c1.size); clear c1 b1
      have c1 := c2; clear c2
      go_wp2_with fail
      refine (S2.out _ _ (HQ.out.below c1)).mono ?_
      rintro y w1 ⟨rfl, b1⟩
      replace k0 := cell_kept k0 b1
      replace k1 := cell_kept k1 b1
      replace k2 := cell_kept k2 b1
      replace q0 := cell_kept q0 b1
      replace q1 := cell_kept q1 b1
      replace q2 := cell_kept q2 b1
      have c2 := c1.trans (b1.mono c1.size); clear c1 b1
      have c1 := c2; clear c2
      clear T1 T2 S1 S2
      go_wp2_with fail
      go_region_held3 (fun w' => w'.cell? ⟨w.heap.size, 0, none⟩ = some (.int .i64 A) ∧ w'.cell? ⟨w.heap.size, 1, none⟩ = some (.bool d) ∧ w'.cell? ⟨w.heap.size, 2, none⟩ = some (.slice p L.length c) ∧ w'.cell? ⟨C, 0, none⟩ = some (.int .i64 A) ∧ w'.cell? ⟨C, 1, none⟩ = some (.bool d) ∧ w'.cell? ⟨C, 2, none⟩ = some (.slice q L.length n) ∧ Below wc.heap.size wc w')
        (first
          | exact ⟨k0, k1, k2, q0, q1, q2, c1.drew⟩
          | exact ⟨by assumption, by assumption, by assumption, by assumption, by assumption, by assumption, by assumption⟩
          | (go_split_ands; exact ⟨cell_kept (by assumption) b1, cell_kept (by assumption) b1, cell_kept (by assumption) b1, cell_kept (by assumption) b1, cell_kept (by assumption) b1, cell_kept (by assumption) b1, Below.trans (by assumption) (b1.mono (Below.size (by assumption)))⟩))
        (first
          | (go_at_call 19; go_split_ands; refine (fcheck_any A d _ L _ ((HV.out.below HC.out).below (by assumption)) (by have := HL.out; omega)).mono ?_; rintro y w2 ⟨rfl, b1⟩)
          | (go_at_call 20; go_split_ands; refine (rcheck_any A d _ L _ (HQ.out.below (by assumption)) (by have := HL.out; omega)).mono ?_; rintro y w2 ⟨rfl, b1⟩)
          | (go_at_call 21; go_split_ands; refine (same_any A d _ L A d _ L _ ((HV.out.below HC.out).below (by assumption)) (HQ.out.below (by assumption)) (by have := HL.out; omega) (by have := HL.out; omega)).mono ?_; rw [sameB_self]; rintro y w2 ⟨rfl, b1⟩)
          | (go_at_call 13; go_split_ands; refine (works_any m _ ((HT.out.below HC.out).below (by assumption)) ((HE.out.below HC.out).below (by assumption)) (cell_kept (cell_kept HM.out HC.out) (by assumption))).mono ?_; rintro y w2 ⟨rfl, b1⟩))
      go_split_ands
      go_wp2_with fail
      go_ret
      exact ⟨rfl, HC.out.trans (Below.mono (by assumption) HC.out.size)⟩
  · have hb : decide (L.length ≤ 100) = false := by rw [decide_eq_false_iff_not]; exact hL
    have HB := Lib.hid hb
    clear hL hb
    go_enter Tryd.func3, Tryd.ntmps3
    go_wp2_with fail
    refine (short_any A d _ L false HB.out _ (HV.out.below c1)).mono ?_
    rintro y w1 ⟨rfl, b1⟩
    have c2 := c1.trans (b1.mono c1.size); clear c1 b1
    go_wp2_with fail
    refine (works_any m _ (HT.out.below c2) (HE.out.below c2) (cell_kept HM.out c2)).mono ?_
    rintro y w2 ⟨rfl, b1⟩
    have c3 := c2.trans (b1.mono c2.size); clear c2 b1
    go_wp2_with fail
    go_ret
    exact ⟨rfl, c3⟩
end Go.Proofs.YtoceeegdbnigeaaDoor
