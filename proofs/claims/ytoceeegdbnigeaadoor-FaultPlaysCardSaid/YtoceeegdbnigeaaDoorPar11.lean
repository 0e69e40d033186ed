/-
  Plans: what Parse computes (its panic is recovered).
  Conditions: the library's tables and variables lie in the world.
-/
import Derived.Test.YtoceeegdbnigeaaDoorRead2
import Derived.Test.YtoceeegdbnigeaaDoorTxt11
import Derived.Test.YtoceeegdbnigeaaDoorTim11
import Derived.Defers
import Derived.Recover
set_option linter.unusedVariables false
namespace Go.Proofs.YtoceeegdbnigeaaDoor
open Go Go.RowKit

open Classical in
noncomputable def pA (s : ByteArray) : Int := if goodP s then (numN (w3 s 0) : Int) else 0
open Classical in
noncomputable def pD (s : ByteArray) : Bool := if goodP s then decide (w3 s 1 = yS) else false
open Classical in
noncomputable def pL (s : ByteArray) : List Int := if goodP s then kepL s else []
open Classical in
noncomputable def pE (s : ByteArray) : Int := if goodP s then 0 else 8
theorem p_good {s : ByteArray} (h : goodP s) : pA s = (numN (w3 s 0) : Int) ∧ pD s = decide (w3 s 1 = yS) ∧ pL s = kepL s ∧ pE s = 0 := by
  unfold pA pD pL pE
  rw [if_pos h, if_pos h, if_pos h, if_pos h]
  exact ⟨rfl, rfl, rfl, rfl⟩
theorem p_bad {s : ByteArray} (h : ¬ goodP s) : pA s = 0 ∧ pD s = false ∧ pL s = [] ∧ pE s = 8 := by
  unfold pA pD pL pE
  rw [if_neg h, if_neg h, if_neg h, if_neg h]
  exact ⟨rfl, rfl, rfl, rfl⟩
/-- What Parse returns. -/
def parsePost (B : Nat) (s : ByteArray) (e : Ending) (w' : World) : Prop := ∃ v, e = .returned (.tuple #[planV (pA s) (pD s) v, .int .i64 (pE s)]) ∧ IntsNew B w' v (pL s)
theorem catch_idle (P Q : Nat) (w : World) :
    CallsD Tryd.prog 45 #[.pointer (some ⟨P, 0, none⟩), .pointer (some ⟨Q, 0, none⟩)] .returning w fun e u' w' => e = .returned (.tuple #[]) ∧ u' = .returning ∧ w' = w := by
  refine callsD_of_wpS Tryd.func45 rfl fun c₀ cs hu => ?_
  apply wpS_seq
  apply wpS_region
  simp [wpOpsS, go_sem, recoverD, hu, Tryd.ntmps45, Exit.thenS]
  refine wpS_of_wp ?_
  simp only [Array.replicate_succ, Array.replicate_zero, List.push_toArray, List.append_toArray, List.nil_append, List.cons_append, List.setIfInBounds_toArray, List.set_cons_succ, List.set_cons_zero]
  go_wp2_with fail
  cases c₀
  simp_all [bodyPostS, results, Tryd.results45]
theorem assert_mal (xT : TypeId) (w : World) : (Instr.typeAssert malV xT 72 true).run Tryd.prog w = .ok (.tuple #[.agg #[], .bool true]) w := by
  simp [Instr.typeAssert, run_underlying Tryd.underlying72, go_sem, Result.andThen]
set_option maxRecDepth 100000 in
theorem catch_mal (P Q : Nat) (x : Int) (w : World) (hp : PlanAt w P 0 false (.slice none 0 0)) (hq : w.cell? ⟨Q, 0, none⟩ = some (.int .i64 x)) (hf : w.frozen? ⟨Q, 0, none⟩ = false) (hn : P ≠ Q) :
    CallsD Tryd.prog 45 #[.pointer (some ⟨P, 0, none⟩), .pointer (some ⟨Q, 0, none⟩)] (.panicking [{ v := malV, recovered := false }]) w fun e u' w' => e = .returned (.tuple #[]) ∧ u' = .panicking [{ v := malV, recovered := true }] ∧ PlanAt w' P 0 false (.slice none 0 0) ∧ w'.cell? ⟨Q, 0, none⟩ = some (.int .i64 8) ∧ ∀ B, B ≤ w.heap.size → B ≤ P → B ≤ Q → ∀ w0, Below B w0 w → Below B w0 w' := by
  have a1 := (Below.refl w.heap.size w).alloc (Nat.le_refl _) (.cells #[] 72)
  have hp1 := hp.below a1
  have HP := Lib.hid hp1
  obtain ⟨⟨p0, p1, p2⟩, pf⟩ := hp1
  have pf0 := pf 0
  have pf1 := pf 1
  have pf2 := pf 2
  have hql := World.block_lt_of_cell? w _ hq
  have q0 := cell_kept hq a1
  have qf0 := free_kept hf hql a1
  have hp3 := HP.out.set 0 false (.slice none 0 0)
  have HP3 := Lib.hid hp3
  have n0 : (⟨Q, 0, none⟩ : Addr) ≠ ⟨P, 0, none⟩ := by intro he; injection he with e1 e2; omega
  have q3 : ((((w.alloc (.cells #[] 72)).setCell ⟨P, 0, none⟩ (.int .i64 0)).setCell ⟨P, 1, none⟩ (.bool false)).setCell ⟨P, 2, none⟩ (.slice none 0 0)).cell? ⟨Q, 0, none⟩ = some (.int .i64 x) := by
    refine (World.cell?_of_block ?_).trans q0
    exact set3_heap _ P Q (Ne.symm hn) _ _ _
  have qf3 : ((((w.alloc (.cells #[] 72)).setCell ⟨P, 0, none⟩ (.int .i64 0)).setCell ⟨P, 1, none⟩ (.bool false)).setCell ⟨P, 2, none⟩ (.slice none 0 0)).frozen? ⟨Q, 0, none⟩ = false := by
    refine (World.frozen?_of_block ?_).trans qf0
    exact set3_heap _ P Q (Ne.symm hn) _ _ _
  refine callsD_of_wpS Tryd.func45 rfl fun c₀ cs hu => ?_
  apply wpS_seq
  apply wpS_region
  simp [wpOpsS, go_sem, recoverD, hu, Tryd.ntmps45, Exit.thenS]
  refine wpS_of_wp ?_
  simp only [Array.replicate_succ, Array.replicate_zero, List.push_toArray, List.append_toArray, List.nil_append, List.cons_append, List.setIfInBounds_toArray, List.set_cons_succ, List.set_cons_zero]
  clear pf hp3 hq hf hp n0
  have hta := assert_mal
  go_wp2_with fail
  refine ⟨rfl, _, rfl, .tuple #[], by simp [results, Tryd.results45], rfl, rfl, ?_, ?_, ?_⟩
  · exact HP3.out.other hn _
  · exact World.cell?_setCell_same _ ⟨Q, 0, none⟩ _ q3
  · intro B hB h1 h2 w0 hb
    exact below_set (below_set (below_set (below_set (hb.alloc hB _) _ h1 0 _) _ h1 1 _) _ h1 2 _) _ h2 0 _
theorem results_parse {fn : Func} {t u : Tmp} (h : fn.results = #[.cell t 24, .cell u 28]) (tmps : Array Value) (w : World) (P Q : Nat) (A : Int) (d : Bool) (v : Value) (x : Int) (hp : PlanAt w P A d v) (hq : w.cell? ⟨Q, 0, none⟩ = some (.int .i64 x)) (ht : tmps.getD t undef = .pointer (some ⟨P, 0, none⟩)) (hu : tmps.getD u undef = .pointer (some ⟨Q, 0, none⟩)) : (results fn tmps).run Tryd.prog w = .ok (.tuple #[planV A d v, .int .i64 x]) w := by
  obtain ⟨⟨h0, h1, h2⟩, _⟩ := hp
  have ht' : tmps[t]?.getD undef = .pointer (some ⟨P, 0, none⟩) := by simpa using ht
  have hu' : tmps[u]?.getD undef = .pointer (some ⟨Q, 0, none⟩) := by simpa using hu
  simp [results, h, ht', hu', asAddr]
  go_simp
  done
set_option maxRecDepth 100000 in
set_option maxHeartbeats 2000000 in
theorem parse_any (s : ByteArray) (hs : s.size ≤ 1000000) (m : Int) (w : World) (ht : Tab w) (he : Errs w) (hm : w.cell? ⟨0, 0, none⟩ = some (.int .i64 m)) :
    Calls Tryd.prog 22 #[.string s] w fun e w' => parsePost w.heap.size s e w' ∧ Below w.heap.size w w' := by
  have hmf : ∀ (fn : Fn) (first cap : Array Value) (w : World), (Instr.makeFunc fn first cap).run Tryd.prog w = .ok (.func fn first cap) w := fun _ _ _ _ => rfl
  have c1 : Below w.heap.size w (w.alloc (.cells #[.int .i64 0, .bool false, .slice none 0 0] 24)) := (Below.refl _ _).alloc (Nat.le_refl _) _
  have a2 := (Below.refl (w.alloc (.cells #[.int .i64 0, .bool false, .slice none 0 0] 24)).heap.size (w.alloc (.cells #[.int .i64 0, .bool false, .slice none 0 0] 24))).alloc (Nat.le_refl _) (.cells #[.int .i64 0] 28)
  have c2 : Below w.heap.size w ((w.alloc (.cells #[.int .i64 0, .bool false, .slice none 0 0] 24)).alloc (.cells #[.int .i64 0] 28)) := c1.alloc c1.size _
  have hs1 : (w.alloc (.cells #[.int .i64 0, .bool false, .slice none 0 0] 24)).heap.size = w.heap.size + 1 := by simp
  have hs2 : ((w.alloc (.cells #[.int .i64 0, .bool false, .slice none 0 0] 24)).alloc (.cells #[.int .i64 0] 28)).heap.size = w.heap.size + 2 := by simp
  have HP := Lib.hid ((PlanAt.new w 0 false (.slice none 0 0) 24).below a2)
  have hq := new_cell (w := w.alloc (.cells #[.int .i64 0, .bool false, .slice none 0 0] 24)) #[.int .i64 0] 28 0 (.int .i64 0) rfl
  have hqf := new_free (w := w.alloc (.cells #[.int .i64 0, .bool false, .slice none 0 0] 24)) #[.int .i64 0] 28 0
  rw [hs1] at hq hqf
  have HT := Lib.hid (ht.below c2)
  have HE := Lib.hid (he.below c2)
  have HM := Lib.hid (cell_kept hm c2)
  have HS := Lib.hid hs
  have HQ := Lib.hid hq
  have HQF := Lib.hid hqf
  clear ht he hm hs hq hqf a2
  go_enter_defers Tryd.func22, Tryd.ntmps22
  go_wp2_with fail
  refine (read_any s HS.out m _ HT.out HE.out HM.out).mono ?_
  rw [hs2]
  generalize ((w.alloc (.cells #[.int .i64 0, .bool false, .slice none 0 0] 24)).alloc (.cells #[.int .i64 0] 28)) = w0 at *
  have hQ0 : w.heap.size + 1 < w0.heap.size := by omega
  rintro e w1 ⟨(⟨hg, v, rfl, hn⟩ | ⟨hg, rfl⟩), b1⟩
  · obtain ⟨p', c', rfl⟩ := ownsRow_slice hn
    have b2 : Below w0.heap.size w0 w1 := by rw [hs2]; exact b1
    have c3 := c2.trans (b2.mono c2.size)
    have hp1 := HP.out.below b2
    have hq1 := cell_kept HQ.out b2
    have hqf1 := free_kept HQF.out hQ0 b2
    have HP1 := Lib.hid hp1
    obtain ⟨⟨p0, p1, p2⟩, pf⟩ := hp1
    have pf0 := pf 0
    have pf1 := pf 1
    have pf2 := pf 2
    obtain ⟨A, hA⟩ : ∃ A : Int, (numN (w3 s 0) : Int) = A := ⟨_, rfl⟩
    obtain ⟨d, hd⟩ : ∃ d : Bool, decide (w3 s 1 = yS) = d := ⟨_, rfl⟩
    rw [hA, hd]
    have HG : Hid (pA s = A ∧ pD s = d ∧ pL s = kepL s ∧ pE s = 0) := by
      have h := p_good hg
      rw [hA, hd] at h
      exact h
    have q3 : (((w1.setCell ⟨w.heap.size, 0, none⟩ (.int .i64 A)).setCell ⟨w.heap.size, 1, none⟩ (.bool d)).setCell ⟨w.heap.size, 2, none⟩ (.slice p' (kepL s).length c')).cell? ⟨w.heap.size + 1, 0, none⟩ = some (.int .i64 0) :=
      (World.cell?_of_block (set3_heap w1 w.heap.size (w.heap.size + 1) (by omega) _ _ _)).trans hq1
    have qf3 : (((w1.setCell ⟨w.heap.size, 0, none⟩ (.int .i64 A)).setCell ⟨w.heap.size, 1, none⟩ (.bool d)).setCell ⟨w.heap.size, 2, none⟩ (.slice p' (kepL s).length c')).frozen? ⟨w.heap.size + 1, 0, none⟩ = false :=
      (World.frozen?_of_block (set3_heap w1 w.heap.size (w.heap.size + 1) (by omega) _ _ _)).trans hqf1
    have HP3 := Lib.hid ((HP1.out.set A d (.slice p' (kepL s).length c')).other (C := w.heap.size + 1) (j := 0) (by omega) (.int .i64 0))
    have HQ3 := Lib.hid (World.cell?_setCell_same _ ⟨w.heap.size + 1, 0, none⟩ (.int .i64 0) q3)
    have HN3 := Lib.hid (((((hn.set ⟨w.heap.size, 0, none⟩ (.int .i64 A) (by simp)).set ⟨w.heap.size, 1, none⟩ (.bool d) (by simp)).set ⟨w.heap.size, 2, none⟩ (.slice p' (kepL s).length c') (by simp)).set ⟨w.heap.size + 1, 0, none⟩ (.int .i64 0) (by simp)).base (C := w.heap.size) (by omega))
    have c4 := below_set (below_set (below_set (below_set c3 w.heap.size (by omega) 0 (.int .i64 A)) w.heap.size (by omega) 1 (.bool d)) w.heap.size (by omega) 2 (.slice p' (kepL s).length c')) (w.heap.size + 1) (by omega) 0 (.int .i64 0)
    clear pf b1 b2 hn hg hA hd HP1 c1 c2 c3
    go_wp2_with fail
    refine leaves_cons (f := 45) (args := #[.pointer (some ⟨w.heap.size, 0, none⟩), .pointer (some ⟨w.heap.size + 1, 0, none⟩)]) (by simp) (by simp [go_sem]) ?_
    refine (catch_idle w.heap.size (w.heap.size + 1) _).mono ?_
    rintro e u' w'' ⟨rfl, rfl, rfl⟩
    refine ⟨_, results_parse rfl _ _ w.heap.size (w.heap.size + 1) A d (.slice p' (kepL s).length c') 0 HP3.out HQ3.out rfl rfl, ⟨.slice p' (kepL s).length c', by rw [HG.out.1, HG.out.2.1, HG.out.2.2.2], by rw [HG.out.2.2.1]; exact HN3.out⟩, c4⟩
  · have b2 : Below w0.heap.size w0 w1 := by rw [hs2]; exact b1
    have c3 := c2.trans (b2.mono c2.size)
    have hp1 := HP.out.below b2
    have hq1 := cell_kept HQ.out b2
    have hqf1 := free_kept HQF.out hQ0 b2
    have HG := Lib.hid (p_bad hg)
    go_wp2_with fail
    refine leaves_cons (f := 45) (args := #[.pointer (some ⟨w.heap.size, 0, none⟩), .pointer (some ⟨w.heap.size + 1, 0, none⟩)]) (by simp) (by simp [go_sem]) ?_
    refine (catch_mal w.heap.size (w.heap.size + 1) 0 _ hp1 hq1 hqf1 (by omega)).mono ?_
    rintro e u' w'' ⟨rfl, rfl, hp2, hq2, hb⟩
    refine ⟨_, results_parse rfl _ _ w.heap.size (w.heap.size + 1) 0 false (.slice none 0 0) 8 hp2 hq2 rfl rfl, ⟨.slice none 0 0, by rw [HG.out.1, HG.out.2.1, HG.out.2.2.2], by rw [HG.out.2.2.1]; exact IntsNew.nil _ _⟩, hb w.heap.size c3.size (by omega) (by omega) w c3⟩
end Go.Proofs.YtoceeegdbnigeaaDoor
