/-
  OpReads: the walk.
  OpReads: for every input the law returns true, and each argument reads behind the call as before it: the statement and its card.
  Conditions: none.
-/
import Derived.Test.YtlmbcclggaflaaaGreatDoorBuG
import Derived.Test.YtlmbcclggaflaaaGreatDoorBuF
set_option linter.unusedVariables false
namespace Go.Proofs.YtlmbcclggaflaaaGreatDoor
open Go Go.RowKit

theorem rdA_len (s : ByteArray) : (rdA s).1.length ≤ 2000 := by
  unfold rdA
  split
  · simp
  · exact rdL_len _ _ _ (by simp)
set_option maxRecDepth 100000 in
set_option maxHeartbeats 4000000 in
theorem walkOpReads (s : ByteArray) (m : Int) (w : World) (ht : Tab w) (he : Errs w) (hm : w.cell? ⟨0, 0, none⟩ = some (.int .i64 m)) :
    Calls Tryz.prog 5 #[.string s] w fun e w' => e = .returned (.bool true) ∧ Below w.heap.size w w' := by
  have HE : Hid (Env m w) := ⟨ht, he, hm⟩
  clear ht he hm
  by_cases hbig : 4000 < s.size
  · have d0 : decide (4000 < (s.size : Int)) = true := by rw [decide_eq_true_iff]; omega
    clear hbig
    go_enter Tryz.func5, Tryz.ntmps5
    go_wp2_with fail
    refine (works39_any m _ HE.out).mono ?_
    rintro e w1 ⟨rfl, b1⟩
    go_wp2_with fail
    go_ret
    exact ⟨rfl, b1⟩
  · have d0 : decide (4000 < (s.size : Int)) = false := by rw [decide_eq_false_iff_not]; omega
    have HS : Hid (s.size ≤ 100000) := by show _ ≤ _; omega
    obtain ⟨o, ho⟩ : ∃ o, opP s.data.toList = o := ⟨_, rfl⟩
    obtain ⟨E, hE⟩ : ∃ E, opPE s.data.toList = E := ⟨_, rfl⟩
    obtain ⟨L, hL⟩ : ∃ L, (rdA s).1 = L := ⟨_, rfl⟩
    obtain ⟨I, hI⟩ : ∃ I, (rdA s).2.1 = I := ⟨_, rfl⟩
    obtain ⟨G, hG⟩ : ∃ G, (rdA s).2.2 = G := ⟨_, rfl⟩
    have hp1 := parse39_any s HS.out m
    have hp2 := rparse39_any s HS.out
    have hp3 := parseAll_any s HS.out m
    have hp4 := rparseAll_any s HS.out
    rw [ho, hE] at hp1 hp2
    rw [hL, hI, hG] at hp3 hp4
    have hlen := rdA_len s
    rw [hL] at hlen
    obtain ⟨k, a, b, x, v⟩ := o
    have HP1 : Hid (∀ w, Env m w → Calls Tryz.prog 28 #[.string s] w fun e w' => e = .returned (.tuple #[opA k a b x v, .int .i64 E]) ∧ Below w.heap.size w w') := hp1
    have HP2 : Hid (∀ w, Calls Tryz.prog 29 #[.string s] w fun e w' => e = .returned (.tuple #[opA k a b x v, .int .i64 E]) ∧ Below w.heap.size w w') := hp2
    have HP3 := Lib.hid hp3
    have HP4 := Lib.hid hp4
    have HLN := Lib.hid hlen
    have heq : ∀ w, (binOp .eql 28 (opA k a b x v) (opA k a b x v)).run Tryz.prog w = .ok (.bool true) w := op_eql ⟨k, a, b, x, v⟩ ⟨k, a, b, x, v⟩ true (decide_eq_true rfl)
    have d1 : (E == E) = true := beq_self_eq_true _
    have d2 : (I == I) = true := beq_self_eq_true _
    have d3 : (G == G) = true := beq_self_eq_true _
    clear hbig ho hE hL hI hG hp1 hp2 hp3 hp4 hlen
    go_enter Tryz.func5, Tryz.ntmps5
    go_wp2_with fail
    refine (HP1.out _ HE.out).mono ?_
    rintro e w1 ⟨rfl, b1⟩
    have c1 := Lib.hid b1
    have HA := Lib.hid (OpBox.new w1 k a b x v 28)
    have b1 := (Below.refl w1.heap.size w1).alloc (Nat.le_refl _) (.cells #[.int .i64 k, .int .i64 a, .int .i64 b, .string x, .string v] 28)
    have c2 := Lib.hid (c1.out.trans (b1.mono c1.out.size))
    clear c1
    have c1 := Lib.hid c2.out
    clear c2
    clear b1
    go_wp2_with fail
    generalize (w1.alloc (.cells #[.int .i64 k, .int .i64 a, .int .i64 b, .string x, .string v] 28)) = w2 at *
    obtain ⟨DA, hDA⟩ : ∃ DA, w1.heap.size = DA := ⟨_, rfl⟩
    rw [hDA] at HA
    rw [hDA]
    clear hDA
    refine (HP2.out _).mono ?_
    rintro e w3 ⟨rfl, b1⟩
    have c2 := Lib.hid (c1.out.trans (b1.mono c1.out.size))
    clear c1
    have c1 := Lib.hid c2.out
    clear c2
    have hh := Lib.hid (HA.out.below b1)
    clear HA
    have HA := Lib.hid hh.out
    clear hh
    have HB := Lib.hid (OpBox.new w3 k a b x v 28)
    have b1 := (Below.refl w3.heap.size w3).alloc (Nat.le_refl _) (.cells #[.int .i64 k, .int .i64 a, .int .i64 b, .string x, .string v] 28)
    have c2 := Lib.hid (c1.out.trans (b1.mono c1.out.size))
    clear c1
    have c1 := Lib.hid c2.out
    clear c2
    have hh := Lib.hid (HA.out.below b1)
    clear HA
    have HA := Lib.hid hh.out
    clear hh
    clear b1
    go_wp2_with fail
    generalize (w3.alloc (.cells #[.int .i64 k, .int .i64 a, .int .i64 b, .string x, .string v] 28)) = w4 at *
    obtain ⟨DB, hDB⟩ : ∃ DB, w3.heap.size = DB := ⟨_, rfl⟩
    rw [hDB] at HB
    rw [hDB]
    clear hDB
    refine (HP3.out _ (HE.out.below c1.out)).mono ?_
    rintro e w5 ⟨⟨v5, rfl, h5⟩, b1⟩
    obtain ⟨p5, c5, rfl⟩ := ownsRow_slice h5
    have HL5 := Lib.hid (OpsNew.at h5)
    have c2 := Lib.hid (c1.out.trans (b1.mono c1.out.size))
    clear c1
    have c1 := Lib.hid c2.out
    clear c2
    have hh := Lib.hid (HA.out.below b1)
    clear HA
    have HA := Lib.hid hh.out
    clear hh
    have hh := Lib.hid (HB.out.below b1)
    clear HB
    have HB := Lib.hid hh.out
    clear hh
    clear h5 b1
    go_wp2_with fail
    refine (HP4.out _).mono ?_
    rintro e w6 ⟨⟨v6, rfl, h6⟩, b1⟩
    obtain ⟨p6, c6, rfl⟩ := ownsRow_slice h6
    have HL6 := Lib.hid (OpsNew.at h6)
    have c2 := Lib.hid (c1.out.trans (b1.mono c1.out.size))
    clear c1
    have c1 := Lib.hid c2.out
    clear c2
    have hh := Lib.hid (HA.out.below b1)
    clear HA
    have HA := Lib.hid hh.out
    clear hh
    have hh := Lib.hid (HB.out.below b1)
    clear HB
    have HB := Lib.hid hh.out
    clear hh
    have hh := Lib.hid (HL5.out.below b1)
    clear HL5
    have HL5 := Lib.hid hh.out
    clear hh
    clear h6 b1
    obtain ⟨⟨a0, a1, a2, a3, a4⟩, af⟩ := HA.out
    obtain ⟨⟨b0, b1', b2, b3, b4⟩, bf⟩ := HB.out
    clear af bf
    go_wp2_with fail
    refine (equalOps_any _ _ L L _ HL5.out HL6.out (by have := HLN.out; omega)).mono ?_
    rw [decide_eq_true rfl]
    rintro e w7 ⟨rfl, b1⟩
    have c2 := Lib.hid (c1.out.trans (b1.mono c1.out.size))
    clear c1
    have c1 := Lib.hid c2.out
    clear c2
    clear b1 a0 a1 a2 a3 a4 b0 b1' b2 b3 b4 HA HB
    go_wp2_with fail
    refine (works39_any m _ (HE.out.below c1.out)).mono ?_
    rintro e w8 ⟨rfl, b1⟩
    have c2 := Lib.hid (c1.out.trans (b1.mono c1.out.size))
    clear c1
    have c1 := Lib.hid c2.out
    clear c2
    clear b1
    go_wp2_with fail
    go_ret
    exact ⟨rfl, c1.out⟩
end Go.Proofs.YtlmbcclggaflaaaGreatDoor
namespace Go.Proofs.YtlmbcclggaflaaaGreatDoor.lawOpReads
open Go Go.RowKit Go.ChangeShapes Go.WideShapes Go.ChangeAt
open Go.ChangeMaps (open_string shut_string)

set_option maxRecDepth 100000 in
theorem contract (H : Type) (enc : TypeId × Value → H) (W : World) (base : Nat) (args : Array Value) (ds gs : List (DataW H)) (before : List MemPlace)
    (hval : ∀ (j : Nat) t v, Tryz.f5.params[j]? = some t → args[j]? = some v → Value.okWide Tryz.prog W .any base t v)
    (hW : DataW.Whole enc Tryz.prog Tryz.f5.params.toList Rows.opReadsSpec.vars false W args.toList ds gs before) (hL : laidMetH Tryz.prog Rows.opReadsRow.laid W) (hS : W.ShapedOpen Tryz.prog) :
    Calls Tryz.prog 5 args W fun e W' => ∃ v, e = .returned v ∧ Rows.opReadsSpec.post enc Tryz.prog Tryz.f5 false true false false W args v W' := by
  have hW' := hW
  obtain ⟨p, q, hA0, hV, rfl, hfz, hnd⟩ := hW
  have hA : DataW.TrodAll enc Tryz.prog W 0 (fun _ => true) true Tryz.f5.params.toList args.toList ds p := hA0
  rw [Tryz.params5] at hA hval
  obtain ⟨v0, vs0, d0, ds0, p0, q0, hargs, rfl, rfl, h0, r0⟩ := trodAll_cons hA
  obtain ⟨rfl, rfl, rfl⟩ := trodAll_nil r0
  obtain rfl : args = #[v0] := by cases args; simp_all
  obtain ⟨rfl, rfl⟩ := trodVars_none hV
  obtain ⟨mL, hm⟩ := maxLen_of hS
  obtain ⟨a0, rfl, rfl, rfl, ws0⟩ := open_string Tryz.underlying9 (hval 0 9 v0 rfl rfl) h0
  clear hA0
  simp only [List.append_nil] at hW'
  refine (walkOpReads a0 mL W (tab_of_laid hL) (errs_of_laid hL) hm).mono fun e W' ⟨he, hb⟩ => ?_
  subst he
  refine ⟨_, rfl, _, _, _, [], [], [], hW', ?_, ?_, rfl, hb.frame _, fun h => by cases h⟩
  · exact trodAll_cons_mk (shut_bool Tryz.underlying4 _) trodAll_mk0
  · exact trodAll_cons_mk (shut_string Tryz.underlying9 ws0) trodAll_mk0

theorem reads (os : Os) {H : Type} (enc : TypeId × Value → H) : ∃ places, DataW.whole enc Tryz.prog ((laidWorld os).forCall (fun _ _ => 0) ⟨#[], #[.string ⟨#[]⟩], []⟩).memory Tryz.f5.params.toList Rows.opReadsSpec.vars false (#[.string ⟨#[]⟩] : Array Value).toList 8 = some ([.lit (.string [])], [], places) :=
  ⟨[], by kernel_rfl⟩

set_option maxRecDepth 100000 in
theorem lifted (os : Os) (started : os.Started) (H : Type) (enc : TypeId × Value → H) (F : Stop.Interp) :
    ReturnsInHanded {} Tryz.checked os 5 .any ((OpenSpec.ofChange Rows.opReadsSpec).preRow enc Tryz.prog Tryz.f5 Rows.opReadsRow.domain false Rows.opReadsRow.laid) (((OpenSpec.ofChange Rows.opReadsSpec).at F).post enc Tryz.prog Tryz.f5 false true false false) := by
  obtain ⟨places, hx⟩ := reads os enc
  refine returnsInHanded_of_row (C := Tryz.checked) (s := OpenSpec.ofChange Rows.opReadsSpec) own started (by kernel_rfl) Tryz.func5
    (witness_row_atRef (enc := enc) (C := Tryz.checked) false (laidWorld os) #[.string ⟨#[]⟩] rfl (by kernel_rfl) (by kernel_rfl) (by kernel_rfl)
      (OpenSpec.preRow_of_cond 8 hx (by kernel_rfl) (fun k hk => by cases hk) (by kernel_rfl) (laid_met os _))) ?_
  intro W base args ds gs before hval hW _ _ _ hL hS _
  exact contract H enc W base args ds gs before hval hW hL hS

theorem said : Rows.OpReadsSaid :=
  OpenClaim.holds_of_cond 5 Tryz.f5 rfl rfl rfl rfl rfl rfl rfl ⟨rfl, rfl, rfl, rfl, rfl⟩ rfl rfl rfl rfl rfl (by kernel_rfl) Tryz.func5 (by kernel_rfl)
    (of_decide_eq_true (by kernel_rfl)) (by unfold Func.isWrapper; first | (rw [if_pos (by decide +kernel)]; kernel_rfl) | (rw [if_neg (by decide +kernel)]; exact ⟨rfl, rfl⟩))
    (fun os started H enc _ F => by rw [OpenClaim.pre_eq_preRow]; exact lifted os started H enc F)

theorem plain (f : FuncId) (fn : Func) (hf : Tryz.pinned.checked.prog.funcNamed Tryz.f5.name = some f) (hfn : Tryz.pinned.checked.prog.funcs[f]? = some fn) :
    true = Tryz.pinned.checked.prog.looks [] ∧ ∀ (j : Nat) t, fn.params[j]? = some t → Tryz.pinned.checked.prog.wantsStandIn t = false := by
  obtain rfl : f = 5 := Option.some.inj ((show Tryz.prog.funcNamed Tryz.f5.name = some 5 by kernel_rfl).symm.trans hf) |>.symm
  obtain rfl : fn = Tryz.f5 := (Option.some.inj (Tryz.func5.symm.trans hfn)).symm
  refine ⟨by kernel_rfl, fun j t ht => ?_⟩
  have key : Tryz.f5.params.all (fun t => !Tryz.prog.wantsStandIn t) = true := by kernel_rfl
  have h2 := Array.all_eq_true_iff_forall_mem.1 key t (Array.mem_of_getElem? ht)
  rw [Bool.not_eq_true'] at h2
  exact h2

theorem proved : Rows.OpReadsCardSaid :=
  Claim7.holds_tied_plain_at .later [] _ _ _ _ said (fun _ h => by cases h) (by kernel_rfl) (fun _ h => by cases h) opReads_row_tie rfl ⟨rfl, rfl⟩ (by kernel_rfl) rfl plain (by kernel_rfl)
end Go.Proofs.YtlmbcclggaflaaaGreatDoor.lawOpReads
