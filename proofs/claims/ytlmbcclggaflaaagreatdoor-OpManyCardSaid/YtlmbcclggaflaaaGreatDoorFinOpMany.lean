/-
  copy of elements of more than one cell into a row that the call made; plain: a list one behind the other.
  The first operations of a slice.
  slices.Repeat and slices.Clone at operations.
  Plain Lean: scripts of the same operation many times.
  OpMany: the walk.
  OpMany: for every input the law returns true, and each argument reads behind the call as before it: the statement and its card.
  Conditions: none.
-/
import Derived.Test.YtlmbcclggaflaaaGreatDoorBuB
import Derived.Laws.CopyOwn
import Derived.Test.YtlmbcclggaflaaaGreatDoorBuH
import Derived.Test.YtlmbcclggaflaaaGreatDoorBuA
import Derived.Deep.RegionLaw
import Derived.Test.YtlmbcclggaflaaaGreatDoorBuF
import Derived.Test.YtlmbcclggaflaaaGreatDoorBuG
import Derived.Lib.Repeat
set_option linter.unusedVariables false
namespace Go.Proofs.YtlmbcclggaflaaaGreatDoor
open Go Go.RowKit

/-- A list n times, one behind the other. -/
def repV {α : Type} (n : Nat) (X : List α) : List α := (List.replicate n X).flatten
theorem repV_zero {α : Type} (X : List α) : repV 0 X = [] := rfl
theorem repV_succ {α : Type} (n : Nat) (X : List α) : repV (n + 1) X = X ++ repV n X := by
  unfold repV
  rw [List.replicate_succ, List.flatten_cons]
theorem repV_one {α : Type} (X : List α) : repV 1 X = X := by rw [repV_succ, repV_zero, List.append_nil]
theorem repV_len {α : Type} (X : List α) : ∀ n, (repV n X).length = n * X.length
  | 0 => by rw [repV_zero, Nat.zero_mul]; rfl
  | n + 1 => by rw [repV_succ, List.length_append, repV_len X n, Nat.add_mul, Nat.one_mul, Nat.add_comm]
theorem repV_add {α : Type} (X : List α) (b : Nat) : ∀ a, repV (a + b) X = repV a X ++ repV b X
  | 0 => by rw [Nat.zero_add]; rfl
  | a + 1 => by rw [show a + 1 + b = (a + b) + 1 by omega, repV_succ, repV_succ, repV_add X b a, List.append_assoc]
theorem repV_mem {α : Type} {X : List α} {x : α} : ∀ {n : Nat}, x ∈ repV n X → x ∈ X
  | 0, h => by rw [repV_zero] at h; cases h
  | n + 1, h => by
    rw [repV_succ] at h
    rcases List.mem_append.1 h with h | h
    · exact h
    · exact repV_mem h
theorem repV_flat {α β : Type} (f : α → List β) (X : List α) : ∀ n, (repV n X).flatMap f = repV n (X.flatMap f)
  | 0 => rfl
  | n + 1 => by rw [repV_succ, repV_succ, List.flatMap_append, repV_flat f X n]
theorem opC_one (L : List OpD) : ∀ v ∈ L.flatMap opC, v.oneCell' = true := by
  intro v hv
  obtain ⟨o, _, ho⟩ := List.mem_flatMap.1 hv
  unfold opC at ho
  simp only [List.mem_cons, List.not_mem_nil, or_false] at ho
  rcases ho with rfl | rfl | rfl | rfl | rfl <;> rfl
theorem splice_rep {α : Type} (X R : List α) (j k : Nat) : splice (repV j X ++ R) (j * X.length) (repV k X) = repV (j + k) X ++ R.drop (k * X.length) := by
  have e : (repV j X).length = j * X.length := repV_len X j
  unfold splice
  rw [← e, List.take_left, repV_len X k, List.drop_append, List.drop_eq_nil_of_le (by omega), List.nil_append, show (repV j X).length + k * X.length - (repV j X).length = k * X.length by omega, repV_add X k j, List.append_assoc]
theorem splice_first {α : Type} (X Z : List α) : splice Z 0 X = repV 1 X ++ Z.drop X.length := by
  unfold splice
  rw [List.take_zero, List.nil_append, repV_one, Nat.zero_add]

theorem run_copyN {P : Program} (w : World) (dT sT ty elem : TypeId) (z : Nat) (g o dLen dCap : Nat) (sp : Option Addr) (sLen sCap : Nat) (cur : List Value) (t : TypeId) (cs : List Value) (k : Nat)
    (hu : P.underlying dT = some (.slice elem)) (hs : (P.info? elem).map (·.size) = some z) (hg : w.heap[g]? = some (.cells cur.toArray t (0, 0))) (hk : Nat.min sLen dLen = k) (hl : cs.length = k * z)
    (hsrc : 0 < k → ∃ ad, sp = some ad ∧ ∀ j v, cs[j]? = some v → w.cell? (ad.add j) = some v) (hfit : o + cs.length ≤ cur.length) (h1 : ∀ v ∈ cs, v.oneCell' = true) :
    (Builtin.copy_ #[dT, sT] ty #[.slice (some ⟨g, o, none⟩) dLen dCap, .slice sp sLen sCap]).run P w = .ok (goInt k) (w.setRow g (splice cur o cs).toArray) := by
  have hst := run_storeCells_at P g o t cs 0 cur.toArray w hg (by simpa using hfit) h1
  have hsp : (splice cur o cs).toArray = (cur.toArray.toList.take (o + 0) ++ cs ++ cur.toArray.toList.drop (o + 0 + cs.length)).toArray := by
    unfold splice
    simp
  rw [hsp]
  cases hq : P.info? elem with
  | none => simp [hq] at hs
  | some i =>
    have hi : i.size = z := by simpa [hq] using hs
    by_cases h0 : 0 < k
    · obtain ⟨a, rfl, hc⟩ := hsrc h0
      have hld := run_loadCells_list (P := P) w a cs hc
      rw [hl] at hld
      simp [Builtin.copy_, run_underlying hu, Builtin.lenOf, Builtin.firstCells, sizeOf, typeInfo, hq, hi, hk, hld, hst]
    · obtain rfl : k = 0 := by omega
      have hcs : cs = [] := List.eq_nil_of_length_eq_zero (by omega)
      subst hcs
      cases sp with
      | none => simp [Builtin.copy_, run_underlying hu, Builtin.lenOf, Builtin.firstCells, sizeOf, typeInfo, hq, hk, hst]
      | some a => simp [Builtin.copy_, run_underlying hu, Builtin.lenOf, Builtin.firstCells, sizeOf, typeInfo, hq, hk, hst, loadCells, loadCellsFrom]
theorem wpList_copyN {P : Program} {w : World} {ops : Array Oper} {rest : List Oper} {o : Oper} {a : Act} {Q : Exit → Act → World → Prop} (hgd : o.guard = none) (d s : Operand) (dT sT : TypeId)
    (ho : o.op = .call { callee := .builtin .copy, args := #[d, s], argTypes := #[dT, sT] }) (elem : TypeId) (z : Nat) (hu : P.underlying dT = some (.slice elem)) (hsz : (P.info? elem).map (·.size) = some z)
    (g off dLen dCap : Nat) (sp : Option Addr) (sLen sCap : Nat) (hd : a.eval d = .slice (some ⟨g, off, none⟩) dLen dCap) (hs : a.eval s = .slice sp sLen sCap)
    (cur : List Value) (t : TypeId) (hg : w.heap[g]? = some (.cells cur.toArray t (0, 0))) (cs : List Value) (k : Nat) (hk : Nat.min sLen dLen = k) (hl : cs.length = k * z)
    (hsrc : 0 < k → ∃ ad, sp = some ad ∧ ∀ j v, cs[j]? = some v → w.cell? (ad.add j) = some v) (hfit : off + cs.length ≤ cur.length) (h1 : ∀ v ∈ cs, v.oneCell' = true) (B : Nat) (w0 : World) (hb : Below B w0 w) (hBg : B ≤ g)
    (h : ∀ w', Hid (w'.heap[g]? = some (.cells (splice cur off cs).toArray t (0, 0))) → Below B w0 w' → wpList P ops Q rest (a.put o.dst (goInt k)) w') :
    wpList P ops Q (o :: rest) a w := by
  refine wpList_plain hgd fun K hK => ?_
  have hrun := run_copyN (P := P) w dT sT o.type elem z g off dLen dCap sp sLen sCap cur t cs k hu hsz hg hk hl hsrc hfit h1
  unfold Oper.wp
  simp [execOp, ho, resolve, invoke, builtin, hd, hs, hrun, Result.andThen]
  exact hK _ _ (h _ (show _ = _ from setRow_heap w g _ _ t _ hg) (below_setRow hb hBg _))
theorem step_copyN {P : Program} {ops : Array Oper} {o : Oper} {a : Act} {w : World} {K : Act → World → Prop} {Q : Exit → Act → World → Prop} {E : Prop} (hgd : o.guard = none) (d s : Operand) (dT sT : TypeId)
    (ho : o.op = .call { callee := .builtin .copy, args := #[d, s], argTypes := #[dT, sT] }) (elem : TypeId) (z : Nat) (hu : P.underlying dT = some (.slice elem)) (hsz : (P.info? elem).map (·.size) = some z)
    (g off dLen dCap : Nat) (sp : Option Addr) (sLen sCap : Nat) (hd : a.eval d = .slice (some ⟨g, off, none⟩) dLen dCap) (hs : a.eval s = .slice sp sLen sCap)
    (cur : List Value) (t : TypeId) (hg : w.heap[g]? = some (.cells cur.toArray t (0, 0))) (cs : List Value) (k : Nat) (hk : Nat.min sLen dLen = k) (hl : cs.length = k * z)
    (hsrc : 0 < k → ∃ ad, sp = some ad ∧ ∀ j v, cs[j]? = some v → w.cell? (ad.add j) = some v) (hfit : off + cs.length ≤ cur.length) (h1 : ∀ v ∈ cs, v.oneCell' = true) (B : Nat) (w0 : World) (hb : Below B w0 w) (hBg : B ≤ g)
    (h : ∀ w', Hid (w'.heap[g]? = some (.cells (splice cur off cs).toArray t (0, 0))) → Below B w0 w' → K (a.put o.dst (goInt k)) w') :
    if Region.wanted o (yielded ops a.tmps) = true then Oper.wp P o a w K Q else E := by
  have hw : Region.wanted o (yielded ops a.tmps) = true := by simp [Region.wanted, hgd]
  rw [if_pos hw]
  have hrun := run_copyN (P := P) w dT sT o.type elem z g off dLen dCap sp sLen sCap cur t cs k hu hsz hg hk hl hsrc hfit h1
  unfold Oper.wp
  simp [execOp, ho, resolve, invoke, builtin, hd, hs, hrun, Result.andThen]
  exact h _ (show _ = _ from setRow_heap w g _ _ t _ hg) (below_setRow hb hBg _)
end Go.Proofs.YtlmbcclggaflaaaGreatDoor
namespace Go.Proofs.YtlmbcclggaflaaaGreatDoor
open Go Go.RowKit

theorem run_uptoO (p : Option Addr) (n c m : Nat) (h : m ≤ c) (wx : World) :
    (Instr.slice 35 (.slice p n c) none (some (.int .i64 (m : Int))) none).run Tryz.prog wx = .ok (.slice p m c) wx := by
  have hs : ∀ w, (Go.sizeOf 28).run Tryz.prog w = .ok 5 w := fun w => by kernel_rfl
  have ht' : Tryz.prog.underlying 35 = some (.slice (Tryz.prog.elem 35)) := by simp [Program.elem, Tryz.underlying35]
  have he : Tryz.prog.elem 35 = 28 := by simp [Program.elem, Tryz.underlying35]
  rw [run_slice_h wx 35 p n c ht' .i64 (m : Int) (by omega) (by omega), he, hs]
  show Result.ok (sliced p 0 (m : Int).toNat c 5) wx = _
  unfold sliced
  rw [Nat.zero_mul, addr_zero]
  rfl
theorem OpsAt.upto {w : World} {p : Option Addr} {c : Nat} {L : List OpD} (h : OpsAt w (.slice p L.length c) L) (m : Nat) (hm : m ≤ L.length) : OpsAt w (.slice p m c) (L.take m) := by
  obtain ⟨p', c', hv, hc, hp⟩ := h
  injection hv with e1 e2 e3
  subst e1 e3
  have hl : (L.take m).length = m := by rw [List.length_take]; omega
  refine ⟨p, c, by rw [hl], by rw [hl]; omega, fun h0 => ?_⟩
  rw [hl] at h0
  obtain ⟨b, o, h1, h2⟩ := hp (by omega)
  refine ⟨b, o, h1, fun i hi => ?_⟩
  rw [hl] at hi
  have e : (L.take m).getD i zeroOp = L.getD i zeroOp := by rw [List.getD, List.getElem?_take, if_pos hi, List.getD]
  rw [e]
  exact h2 i (by omega)
end Go.Proofs.YtlmbcclggaflaaaGreatDoor
namespace Go.Proofs.YtlmbcclggaflaaaGreatDoor
open Go Go.RowKit

theorem infoOp5 : (Tryz.prog.info? 28).map (fun i => (i.zero, i.size, i.bytes)) = some (some (.agg #[.int .i64 0, .int .i64 0, .int .i64 0, .string ⟨#[]⟩, .string ⟨#[]⟩]), 5, 56) := by kernel_rfl
theorem run_from5 (g i T : Nat) (h : i < T) (wx : World) :
    (Instr.slice 35 (.slice (some ⟨g, 0, none⟩) T T) (some (.int .i64 (i : Int))) none none).run Tryz.prog wx = .ok (.slice (some ⟨g, i * 5, none⟩) (T - i) (T - i)) wx := by
  have hs : ∀ w, (Go.sizeOf 28).run Tryz.prog w = .ok 5 w := fun w => by kernel_rfl
  have ht' : Tryz.prog.underlying 35 = some (.slice (Tryz.prog.elem 35)) := by simp [Program.elem, Tryz.underlying35]
  have he : Tryz.prog.elem 35 = 28 := by simp [Program.elem, Tryz.underlying35]
  rw [run_slice_l wx 35 (some ⟨g, 0, none⟩) T T ht' .i64 (i : Int) (by omega) (by omega), he, hs]
  show Result.ok (sliced _ (i : Int).toNat T T 5) wx = _
  unfold sliced
  rw [Int.toNat_natCast, if_neg (by omega)]
  simp [Addr.add_lit]
/-- The operations of Repeat. -/
abbrev repO (n : Nat) (L : List OpD) : List OpD := repV n L
theorem row_cell {w : World} {g : Nat} {cur : List Value} {t : TypeId} (hg : w.heap[g]? = some (.cells cur.toArray t (0, 0))) (j : Nat) : w.cell? ⟨g, j, none⟩ = cur[j]? := by
  rw [Lib.cell_of_heap hg]
  simp
theorem row_kept {w w' : World} {B g : Nat} {o : Obj} (hg : w.heap[g]? = some o) (hb : Below B w w') (h : g < B) : w'.heap[g]? = some o := by
  rw [hb.block g h]
  exact hg
theorem ops_src {w : World} {L : List OpD} {b o : Nat} (h : ∀ i, i < L.length → OpCell w b (o + i * 5) (L.getD i zeroOp)) (j : Nat) (v : Value) (hj : (L.flatMap opC)[j]? = some v) : w.cell? ((⟨b, o, none⟩ : Addr).add j) = some v := by
  have hlt : j < L.length * 5 := by
    rw [← opsC_len]
    exact (List.getElem?_eq_some_iff.mp hj).1
  have e : j / 5 * 5 + j % 5 = j := by omega
  have h1 := opsC_at L (j / 5) (j % 5) (by omega) (by omega)
  rw [e, hj] at h1
  obtain ⟨z0, z1, z2, z3, z4⟩ := h (j / 5) (by omega)
  rw [Addr.add_lit]
  have e2 : o + j = o + j / 5 * 5 + j % 5 := by omega
  rw [e2]
  rcases (show j % 5 = 0 ∨ j % 5 = 1 ∨ j % 5 = 2 ∨ j % 5 = 3 ∨ j % 5 = 4 by omega) with hr | hr | hr | hr | hr
  all_goals
    rw [hr] at h1 ⊢
    rw [h1]
    first | exact z0 | exact z1 | exact z2 | exact z3 | exact z4
set_option maxRecDepth 100000 in
set_option maxHeartbeats 8000000 in
theorem repeat_any (v : Value) (L : List OpD) (n : Nat) (hn : 1 ≤ n) (hT : n * L.length ≤ 1000000) (hn2 : n ≤ 1000000) (hl2 : L.length ≤ 1000000) (w : World) (hv : OpsAt w v L) :
    Calls Tryz.prog 40 #[v, .int .i64 (n : Int)] w fun e w' => ∃ v', e = .returned v' ∧ OpsNew w.heap.size w' v' (repO n L) ∧ Below w.heap.size w w' := by
  obtain ⟨i0, hi0, hz0, hz1, hz2⟩ := info_parts infoOp5
  have hcl := opsC_len L
  obtain ⟨p, c, rfl, hc, hcell⟩ := hv
  obtain ⟨X, hX⟩ : ∃ X, L.flatMap opC = X := ⟨_, rfl⟩
  have hXs : 0 < L.length → ∃ ad, p = some ad ∧ ∀ j v, X[j]? = some v → w.cell? (ad.add j) = some v := fun h0 => by
    obtain ⟨b, o, rfl, hi⟩ := hcell h0
    exact ⟨_, rfl, fun j v hj => ops_src hi j v (by rw [hX]; exact hj)⟩
  have hX1 : ∀ v ∈ X, v.oneCell' = true := by rw [← hX]; exact opC_one L
  have hrl : (repO n L).length = n * L.length := repV_len L n
  have hrf : (repO n L).flatMap opC = repV n X := by rw [← hX]; exact repV_flat opC L n
  rw [hX] at hcl
  obtain ⟨M, hM⟩ : ∃ M, L.length = M := ⟨_, rfl⟩
  rw [hM] at hcl hT hc hXs hrl hl2
  rw [hM]
  obtain ⟨T, hTT⟩ : ∃ T, n * M = T := ⟨_, rfl⟩
  rw [hTT] at hT hrl
  have HRL := Lib.hid hrl
  have HRF := Lib.hid hrf
  have HCL := Lib.hid hcl
  have HXS := Lib.hid hXs
  have HX1 := Lib.hid hX1
  have HTT := Lib.hid hTT
  have HN := Lib.hid hn
  have d0 : decide ((n : Int) < 0) = false := decide_eq_false (by omega)
  have hb1 : M * n = T := by rw [Nat.mul_comm]; exact hTT
  have hmul := fun w => Tryz.bits_Mul M n (by omega) (by omega) w
  rw [hb1, Nat.div_eq_of_lt (by omega), Nat.mod_eq_of_lt (by omega)] at hmul
  have HMUL : Hid (∀ w, Calls Tryz.prog 48 #[.int .u64 (M : Int), .int .u64 (n : Int)] w fun e w' => e = .returned (.tuple #[.int .u64 0, .int .u64 (T : Int)]) ∧ w' = w) := hmul
  have s1 : IntKind.u64.wrap (M : Int) = (M : Int) := IntWalk.u64_in _ (by omega)
  have s2 : IntKind.u64.wrap (n : Int) = (n : Int) := IntWalk.u64_in _ (by omega)
  have s3 : IntKind.i64.wrap (T : Int) = (T : Int) := IntWalk.i64_in _ (by omega)
  have d1 : decide (9223372036854775807 < (T : Int)) = false := decide_eq_false (by omega)
  have hmk : ∀ w : World, ∃ Z : List Value, Z.length = T * 5 ∧ (Instr.makeSlice 35 (.int .i64 (T : Int)) (.int .i64 (T : Int))).run Tryz.prog w = .ok (.slice (some ⟨w.heap.size, 0, none⟩) T T) (w.alloc (.cells Z.toArray 28)) := fun w => by
    have h := run_make (P := Tryz.prog) w 35 28 i0 _ Tryz.underlying35 hi0 hz0 .i64 .i64 (T : Int) (T : Int) (by omega) (by omega) (by rw [hz2]; omega) (by omega)
    rw [hz1, Int.toNat_natCast] at h
    refine ⟨(madeCells (Value.agg #[.int .i64 0, .int .i64 0, .int .i64 0, .string ⟨#[]⟩, .string ⟨#[]⟩]).cells (T * 5)).toList, by rw [Array.length_toList, size_madeCells], ?_⟩
    rw [Array.toArray_toList]
    exact h
  obtain ⟨Z, hZ, hmk1⟩ := hmk w
  have HZ := Lib.hid hZ
  have HG : Hid ((w.alloc (.cells Z.toArray 28)).heap[w.heap.size]? = some (.cells Z.toArray 28 (0, 0))) := heap_alloc_new w _
  have a1 := Lib.hid ((Below.refl w.heap.size w).alloc (Nat.le_refl _) (.cells Z.toArray 28))
  have hTn : M ≤ T := by rw [← hTT]; exact Nat.le_mul_of_pos_left M (by omega)
  have hmin : Nat.min M T = M := Nat.min_eq_left hTn
  clear hn hT hcell hX hrl hrf hcl hXs hX1 hb1 hmul hmk hZ hM hl2 hn2
  go_enter Tryz.func40, Tryz.ntmps40
  go_wp2_with fail
  refine (HMUL.out _).mono ?_
  rintro e w1 ⟨rfl, rfl⟩
  go_wp2_with (refine wpList_copyN rfl (.tmp 31) (.tmp 32) 35 35 rfl 28 5 Tryz.underlying35 (by rw [hi0]; simp [hz1]) w1.heap.size 0 T T p M c rfl rfl Z 28 HG.out X M hmin (by rw [HCL.out]) (fun h0 => (HXS.out h0).imp fun ad h => ⟨h.1, fun j v hj => cell_kept (h.2 j v hj) a1.out⟩) (by rw [HCL.out, HZ.out]; omega) HX1.out w1.heap.size w1 a1.out (Nat.le_refl _) ?_)
  intro w2 HG2 hB2
  have HR2 : Hid (∃ R, R.length = T * 5 - 1 * (M * 5) ∧ w2.heap[w1.heap.size]? = some (.cells (repV 1 X ++ R).toArray 28 (0, 0))) := by
    refine ⟨Z.drop X.length, by rw [List.length_drop, HZ.out, HCL.out, Nat.one_mul], ?_⟩
    rw [← splice_first]
    exact HG2.out
  have HB2 := Lib.hid hB2
  clear HG2 hB2 a1 HG HZ HXS hmin
  clear hmk1
  go_wp2_with fail
  go_loopw [8] (fun s8 wr => ∃ j i : Nat, 1 ≤ j ∧ j ≤ n ∧ s8 = .int .i64 i ∧ Hid (j * M = i) ∧ Hid (∃ R, R.length = T * 5 - j * (M * 5) ∧ wr.heap[w1.heap.size]? = some (.cells (repV j X ++ R).toArray 28 (0, 0))) ∧ Hid (Below w1.heap.size w1 wr)) (fun s8 _ => T - (intOf s8).toNat)
  case atStart => exact ⟨1, M, Nat.le_refl _, HN.out, rfl, Nat.one_mul M, HR2.out, HB2⟩
  case round =>
    clear HB2 HR2
    obtain ⟨j, i, hj1, hjn, rfl, hji, hR, c2⟩ := hrel
    by_cases hlt : i < T
    · have hjn2 : j < n := by
        rcases Nat.lt_or_eq_of_le hjn with h | h
        · exact h
        · subst h
          have h1 := hji.out
          have h2 := HTT.out
          omega
      have hM0 : 0 < M := by
        rcases Nat.eq_zero_or_pos M with h | h
        · have h1 := HTT.out
          rw [h, Nat.mul_zero] at h1
          omega
        · exact h
      obtain ⟨q, hq1, hqj, hqn, hqm⟩ : ∃ q, 1 ≤ q ∧ q ≤ j ∧ j + q ≤ n ∧ Nat.min i (T - i) = q * M := by
        have h1 := hji.out
        have h2 := HTT.out
        have h3 : T - i = (n - j) * M := by rw [Nat.sub_mul, h1, h2]
        rcases Nat.le_total j (n - j) with h | h
        · refine ⟨j, hj1, Nat.le_refl _, by omega, ?_⟩
          rw [h3, h1]
          exact Nat.min_eq_left (by rw [← h1]; exact Nat.mul_le_mul_right M h)
        · refine ⟨n - j, by omega, h, by omega, ?_⟩
          rw [h3]
          exact Nat.min_eq_right (by rw [← h1]; exact Nat.mul_le_mul_right M h)
      obtain ⟨k, hk⟩ : ∃ k, q * M = k := ⟨_, rfl⟩
      rw [hk] at hqm
      have hk1 : 1 ≤ k := by rw [← hk]; exact Nat.mul_pos hq1 hM0
      have hki : k ≤ T - i := by rw [← hqm]; exact Nat.min_le_right _ _
      have hji2 : (j + q) * M = i + k := by rw [Nat.add_mul, hji.out, hk]
      have hcut1 := run_from5 w1.heap.size i T hlt
      have hcut2 := run_uptoO (some ⟨w1.heap.size, 0, none⟩) T T i (Nat.le_of_lt hlt)
      have hsum : IntKind.i64.wrap ((i : Int) + (k : Int)) = (i : Int) + (k : Int) := IntWalk.i64_in _ (by have := of_decide_eq_false d1; omega)
      have d2 : decide ((i : Int) < (T : Int)) = true := decide_eq_true (by omega)
      obtain ⟨R, hRl, hRg⟩ := hR.out
      have HRG := Lib.hid hRg
      have hXl := HCL.out
      have hcsl : (repV q X).length = k * 5 := by rw [repV_len, hXl, ← hk, Nat.mul_assoc]
      have hcur : (repV j X ++ R).length = T * 5 := by
        have h1 : j * (M * 5) ≤ T * 5 := by rw [← Nat.mul_assoc, hji.out]; omega
        rw [List.length_append, repV_len, hXl, hRl]
        omega
      have hoff : i * 5 = j * X.length := by rw [hXl, ← Nat.mul_assoc, hji.out]
      have hpre : ∀ (y : Nat) (u : Value), (repV q X)[y]? = some u → (wr.drew).cell? ((⟨w1.heap.size, 0, none⟩ : Addr).add y) = some u := fun y u hy => by
        rw [Addr.add_lit, Nat.zero_add, row_cell (w := wr.drew) hRg, show j = q + (j - q) by omega, repV_add X (j - q) q, List.append_assoc, List.getElem?_append_left (List.getElem?_eq_some_iff.mp hy).1]
        exact hy
      have HPRE := Lib.hid hpre
      have HQ1 : ∀ v ∈ repV q X, v.oneCell' = true := fun v hv => HX1.out v (repV_mem hv)
      have HQ2 := Lib.hid HQ1
      have HCS := Lib.hid hcsl
      have HCU := Lib.hid hcur
      have HOF := Lib.hid hoff
      have HJ2 := Lib.hid hji2
      have HHQ := Lib.hid (And.intro hqn hRl)
      have HKI := Lib.hid hki
      clear hRg hRl hR hpre HQ1 hcsl hcur hoff hji hji2 hXl hqn hqj hk hM0 hjn2 hki
      go_wp2_with fail
      go_region_law (refine step_copyN rfl (.tmp 41) (.tmp 44) 35 35 rfl 28 5 Tryz.underlying35 (by rw [hi0]; simp [hz1]) w1.heap.size (i * 5) (T - i) (T - i) (some ⟨w1.heap.size, 0, none⟩) i T rfl rfl (repV j X ++ R) 28 HRG.out (repV q X) k hqm HCS.out (fun _ => ⟨_, rfl, HPRE.out⟩) (by rw [HCS.out, HCU.out]; have := HKI.out; omega) HQ2.out w1.heap.size w1 c2.out.drew (Nat.le_refl _) ?_; intro w5 HG5 hB5)
      all_goals
        have HR5 : Hid (∃ R, R.length = T * 5 - (j + q) * (M * 5) ∧ w5.heap[w1.heap.size]? = some (.cells (repV (j + q) X ++ R).toArray 28 (0, 0))) := by
          refine ⟨R.drop (q * X.length), by have h1 := HHQ.out.2; rw [List.length_drop, HCL.out, h1, Nat.add_mul]; omega, ?_⟩
          rw [← splice_rep, ← HOF.out]
          exact HG5.out
        have HB5 := Lib.hid hB5
        clear HG5 hB5 HRG HPRE HQ2 c2 HCS HCU HOF
        go_wp2_with fail
        go_roundw
        case rel => repeat apply Exists.intro
                    refine ⟨⟨j + q, i + k, by omega, HHQ.out.1, by go_num, HJ2, HR5, HB5⟩, rfl⟩
        case measure =>
          show T - (intOf (Value.int .i64 ((i : Int) + (k : Int)))).toNat < T - (intOf (Value.int .i64 (i : Int))).toNat
          have := HKI.out
          simp [intOf]
          omega
    · have HF : Hid (w1.heap.size = w1.heap.size ∧ OpsNew w1.heap.size wr (.slice (some ⟨w1.heap.size, 0, none⟩) T T) (repO n L)) := by
        refine ⟨rfl, ?_⟩
        obtain ⟨R, hRl, hRg⟩ := hR.out
        have h1 := hji.out
        have h2 := HTT.out
        have hXl := HCL.out
        have hiT : T ≤ i := by omega
        have hle : i ≤ T := by rw [← h1, ← h2]; exact Nat.mul_le_mul_right M hjn
        have hcur : (repV j X ++ R).length = T * 5 := by
          have h3 : j * (M * 5) ≤ T * 5 := by rw [← Nat.mul_assoc, h1]; omega
          rw [List.length_append, repV_len, hXl, hRl]
          omega
        have hR0 : R = [] := by
          refine List.eq_nil_of_length_eq_zero ?_
          rw [hRl, ← Nat.mul_assoc, h1]
          omega
        subst hR0
        rw [List.append_nil] at hRg hcur
        have hE : repV j X = repV n X := by
          rcases Nat.eq_zero_or_pos M with h | h
          · have hX0 : X = [] := List.eq_nil_of_length_eq_zero (by rw [hXl, h])
            have e1 : ∀ m, repV m X = [] := fun m => List.eq_nil_of_length_eq_zero (by rw [repV_len, hX0]; simp)
            rw [e1, e1]
          · have : j = n := by
              have h4 : j * M = n * M := by omega
              exact Nat.eq_of_mul_eq_mul_right h h4
            rw [this]
        rw [hE] at hRg hcur
        refine ⟨?_, Or.inr ⟨w1.heap.size, T, (repV n X).toArray, ?_, Nat.le_refl _, hRg, ?_, ?_, ?_, ?_⟩⟩
        · rw [HRF.out, hcur, HRL.out]
        · rw [HRL.out]
        · rw [HRL.out]
          exact Nat.le_refl _
        · have h5 := of_decide_eq_false d1
          unfold maxLen
          omega
        · simpa using hcur
        · rw [HRF.out, HRL.out, List.take_of_length_le (by simpa using Nat.le_of_eq hcur)]
      have d2 : decide ((i : Int) < (T : Int)) = false := decide_eq_false (by omega)
      have d3 : decide (i < T) = false := decide_eq_false hlt
      clear hR hji
      go_wp2_with fail
      go_ret
      exact ⟨_, rfl, HF.out.2, c2.out⟩
end Go.Proofs.YtlmbcclggaflaaaGreatDoor
namespace Go.Proofs.YtlmbcclggaflaaaGreatDoor
open Go Go.RowKit

theorem repV_repeatL (l : List UInt8) : ∀ n, repV n l = Lib.repeatL l n
  | 0 => rfl
  | n + 1 => by rw [repV_succ, Lib.repeatL, repV_repeatL l n]
theorem paL_one (o : OpD) : paL [o] = opT o ++ [10] := by
  unfold paL
  simp
theorem paL_rep (o : OpD) (n : Nat) : paL (repO n [o]) = Lib.repeatL (opT o ++ [10]) n := by
  have h : paL (repO n [o]) = repV n (paL [o]) := repV_flat _ [o] n
  rw [h, paL_one, repV_repeatL]
theorem paL_rep_len (o : OpD) (n : Nat) : (paL (repO n [o])).length = n * ((opT o).length + 1) := by
  rw [paL_rep, Lib.repeatL_length, List.length_append, List.length_singleton]
theorem rep_one_len (o : OpD) (n : Nat) : (repO n [o]).length = n := by
  rw [repV_len, List.length_singleton, Nat.mul_one]
theorem rep_one_all (o : OpD) (n : Nat) (P : OpD → Prop) (h : P o) : ∀ x ∈ repO n [o], P x := by
  intro x hx
  have h1 := repV_mem hx
  rw [List.mem_singleton] at h1
  rw [h1]
  exact h
theorem many_good {o : OpD} (hg : opGood o) {n : Nat} (hn : n ≤ 2000) (hz : n * ((opT o).length + 1) ≤ 65536) : paE (repO n [o]) = 0 ∧ (paT (repO n [o])).size = n * ((opT o).length + 1) := by
  obtain ⟨h1, h2⟩ := pa_good (L := repO n [o]) (rep_one_all o n opGood hg) (by rw [rep_one_len]; exact hn) (by rw [paL_rep_len]; exact hz)
  exact ⟨h1, by rw [h2, pack_size, paL_rep_len]⟩
theorem many_long {o : OpD} (hg : opGood o) {n : Nat} (hn : n ≤ 2000) (hz : 65536 < n * ((opT o).length + 1)) : paE (repO n [o]) = 9 ∧ paT (repO n [o]) = eB :=
  pa_long (by rw [rep_one_len]; omega) (rep_one_all o n opGood hg) (by rw [paL_rep_len]; exact hz)
theorem many_more {o : OpD} {n : Nat} (hn : 2000 < n) : paE (repO n [o]) = 10 ∧ paT (repO n [o]) = eB :=
  pa_many (by rw [rep_one_len]; exact hn)
theorem tail_skip (k : Nat) (acc : List OpD) : rdL (pc 10 [35, 10]) k acc = (acc, 0, 0) := by
  show rdL [[35], []] k acc = _
  rw [rd_skip (by decide), rd_skip (by decide), rd_nil]
theorem many_read {o : OpD} (hg : opGood o) {n : Nat} (hn : n ≤ 2000) {s : ByteArray} (hs : s.data.toList = Lib.repeatL (opT o ++ [10]) n ++ [35, 10]) (hz : s.size ≤ 65536) : rdA s = (repO n [o], 0, 0) := by
  have ha := rep_one_all o n opGood hg
  unfold rdA
  rw [if_neg (by omega), hs, ← paL_rep, pc_paL _ _ ha, rd_lines _ (repO n [o]) _ 0 [] (lines_ops _ ha) (by rw [rep_one_len]; simpa using hn), tail_skip]
  rfl
theorem rep_snoc (o : OpD) (n : Nat) : repO (n + 1) [o] = repO n [o] ++ [o] := by
  show repV (n + 1) [o] = repV n [o] ++ [o]
  rw [repV_add, repV_one]
theorem read_over {M : List OpD} (ha : ∀ x ∈ M, opGood x) (hl : M.length = 2000) {o : OpD} (hg : opGood o) (r : List (List UInt8)) : rdL (M.map opT ++ opT o :: r) 0 [] = ([], 2001, 10) := by
  rw [rd_lines _ M _ 0 [] (lines_ops _ ha) (by simp [hl]), rd_many (opT_skip hg) (by simp [hl])]
  simp [hl]
theorem many_read_more {o : OpD} (hg : opGood o) {n : Nat} (hn : n = 2000) {s : ByteArray} (hs : s.data.toList = Lib.repeatL (opT o ++ [10]) (n + 1) ++ [35, 10]) (hz : s.size ≤ 65536) : rdA s = ([], 2001, 10) := by
  have ha := rep_one_all o (n + 1) opGood hg
  have ha0 := rep_one_all o n opGood hg
  have e2 := rep_one_len o n
  rw [hn] at e2
  unfold rdA
  rw [if_neg (by omega), hs, ← paL_rep, pc_paL _ _ ha, rep_snoc, List.map_append, List.append_assoc]
  exact read_over ha0 (by rw [← hn, rep_one_len]) hg _
/-- The operations of OpMany. -/
def syncD : OpD := ⟨4, 0, 0, eB, eB⟩
theorem syncD_good : opGood syncD := Or.inr (Or.inr (Or.inl ⟨Or.inl rfl, rfl, rfl, rfl, rfl⟩))
theorem sync_text : opT syncD ++ [10] = [115, 121, 110, 99, 10] := by kernel_rfl
theorem sync_len : (opT syncD).length = 4 := by kernel_rfl
def longV : ByteArray := ⟨(Lib.repeatL [118] 27).toArray⟩ ++ ⟨#[119]⟩
def longA : OpD := ⟨1, 0, 0, ⟨#[97, 98, 99]⟩, longV⟩
def longB : OpD := ⟨1, 0, 0, ⟨#[97, 98]⟩, longV⟩
theorem longV_size : longV.size = 28 := by kernel_rfl
theorem longA_good : opGood longA := Or.inl ⟨rfl, rfl, rfl, by show keyV [97, 98, 99] = 0; kernel_rfl, by show longV.size ≤ 512; rw [longV_size]; decide⟩
theorem longB_good : opGood longB := Or.inl ⟨rfl, rfl, rfl, by show keyV [97, 98] = 0; kernel_rfl, by show longV.size ≤ 512; rw [longV_size]; decide⟩
theorem longA_len : (opT longA).length = 64 := by kernel_rfl
theorem longB_len : (opT longB).length = 63 := by kernel_rfl
theorem longA_print : (prT longA).size = 64 ∧ prE longA = 0 := by
  obtain ⟨h1, h2⟩ := pr_good longA_good
  rw [h1, h2, pack_size, longA_len]
  exact ⟨rfl, rfl⟩
theorem OpsAt.one (w : World) (a : OpD) (t : TypeId) : OpsAt (w.alloc (.cells #[.int .i64 a.kind, .int .i64 a.a, .int .i64 a.b, .string a.key, .string a.val] t)) (.slice (some ⟨w.heap.size, 0, none⟩) 1 1) [a] := by
  refine ⟨_, 1, rfl, Nat.le_refl _, fun _ => ⟨w.heap.size, 0, rfl, fun i hi => ?_⟩⟩
  obtain rfl : i = 0 := by
    have : i < 1 := hi
    omega
  exact ⟨new_cell _ _ 0 _ rfl, new_cell _ _ 1 _ rfl, new_cell _ _ 2 _ rfl, new_cell _ _ 3 _ rfl, new_cell _ _ 4 _ rfl⟩
end Go.Proofs.YtlmbcclggaflaaaGreatDoor
namespace Go.Proofs.YtlmbcclggaflaaaGreatDoor
open Go Go.RowKit

theorem rep_byte (c : UInt8) (n : Nat) (h2 : 2 ≤ n) (hn : n ≤ 100000) (w : World) : Calls Tryz.prog 14 #[.string ⟨#[c]⟩, .int .i64 n] w fun e w' => e = .returned (.string ⟨(Lib.repeatL [c] n).toArray⟩) ∧ Below w.heap.size w w' :=
  Tryz.strings_Repeat_main ⟨#[c]⟩ n w h2 (by omega) (by show 1 * n ≤ _; omega) (by show 0 < 1; omega)
theorem rep_line (n : Nat) (h2 : 2 ≤ n) (hn : n ≤ 100000) (w : World) : Calls Tryz.prog 14 #[.string ⟨#[115, 121, 110, 99, 10]⟩, .int .i64 n] w fun e w' => e = .returned (.string ⟨(Lib.repeatL [115, 121, 110, 99, 10] n).toArray⟩) ∧ Below w.heap.size w w' :=
  Tryz.strings_Repeat_main ⟨#[115, 121, 110, 99, 10]⟩ n w h2 (by omega) (by show 5 * n ≤ _; omega) (by show 0 < 5; omega)
/-- What Repeat gives for one operation. -/
def RepC (o : OpD) (n : Nat) (M : List OpD) : Prop := ∀ (v : Value) (w : World), OpsAt w v [o] → Calls Tryz.prog 40 #[v, .int .i64 (n : Int)] w fun e w' => ∃ v', e = .returned v' ∧ OpsNew w.heap.size w' v' M ∧ Below w.heap.size w w'
theorem repC (o : OpD) (n : Nat) (h1 : 1 ≤ n) (h2 : n ≤ 100000) : RepC o n (repO n [o]) := fun v w hv =>
  repeat_any v [o] n h1 (by show n * 1 ≤ _; omega) (by omega) (by show 1 ≤ _; decide) w hv
/-- A script of one operation many times: what the walk wants of it. -/
theorem many_all (o : OpD) (n : Nat) (h1 : 1 ≤ n) (h2 : n ≤ 100000) (hf : opFit o) : ∃ M : List OpD, repO n [o] = M ∧ RepC o n M ∧ M.length = n ∧ (∀ x ∈ M, opFit x) :=
  ⟨_, rfl, repC o n h1 h2, rep_one_len o n, rep_one_all o n opFit hf⟩
theorem longB_fit : opFit longB := ⟨⟨by decide, by decide⟩, by decide, by show longV.size ≤ 100000; rw [longV_size]; decide⟩
theorem longA_fit : opFit longA := ⟨⟨by decide, by decide⟩, by decide, by show longV.size ≤ 100000; rw [longV_size]; decide⟩
theorem syncD_fit : opFit syncD := ⟨⟨by decide, by decide⟩, by decide, by decide⟩
theorem line_bytes (n : Nat) : (⟨(Lib.repeatL [115, 121, 110, 99, 10] n).toArray⟩ : ByteArray).size = 5 * n := by
  show (pack (Lib.repeatL [115, 121, 110, 99, 10] n)).size = _
  rw [pack_size, Lib.repeatL_length]
  show n * 5 = _
  omega
theorem hash_bytes (n : Nat) : (⟨(Lib.repeatL [35] n).toArray⟩ : ByteArray).size = n := by
  show (pack (Lib.repeatL [35] n)).size = _
  rw [pack_size, Lib.repeatL_length]
  show n * 1 = _
  omega
set_option maxRecDepth 100000 in
set_option maxHeartbeats 8000000 in
theorem walkOpMany (t : Int) (ht0 : (Lit.int .u8 t).wf = true) (m : Int) (w : World) (ht : Tab w) (he : Errs w) (hm : w.cell? ⟨0, 0, none⟩ = some (.int .i64 m)) :
    Calls Tryz.prog 11 #[.int .u8 t] w fun e w' => e = .returned (.bool true) ∧ Below w.heap.size w w' := by
  have HE : Hid (Env m w) := ⟨ht, he, hm⟩
  have r1 : IntKind.u8.min = 0 := rfl
  have r2 : IntKind.u8.max = 255 := rfl
  have ht1 : 0 ≤ t ∧ t ≤ 255 := by simpa [Lit.wf, r1, r2] using ht0
  clear r1 r2 ht0 ht he hm
  obtain ⟨T, rfl⟩ : ∃ T : Nat, t = (T : Int) := ⟨t.toNat, by omega⟩
  obtain ⟨R, hR⟩ : ∃ R, T % 4 = R := ⟨_, rfl⟩
  have hR4 : R < 4 := by omega
  have hmod : ((T : Int) % 4) = (R : Int) := by rw [← hR]; simp
  obtain ⟨K, hK⟩ : ∃ K, (R : Int) - 2 = K := ⟨_, rfl⟩
  obtain ⟨N, hN⟩ : ∃ N, 1998 + R = N := ⟨_, rfl⟩
  have hsub : IntKind.i64.wrap ((R : Int) - 2) = K := by rw [hK]; exact IntWalk.i64_in _ (by omega)
  have hadd : IntKind.i64.wrap (2000 + K) = (N : Int) := by rw [IntWalk.i64_in _ (by omega)]; omega
  obtain ⟨Z, hZ⟩ : ∃ Z, 65537 + T = Z := ⟨_, rfl⟩
  have haddZ : IntKind.i64.wrap (65537 + (T : Int)) = (Z : Int) := by rw [IntWalk.i64_in _ (by omega)]; omega
  have HZ := Lib.hid (show 65537 ≤ Z ∧ Z ≤ 66000 by omega)
  have HN := Lib.hid (show 1998 ≤ N ∧ N ≤ 2001 by omega)
  obtain ⟨M1, hM1, r1, l1, f1⟩ := many_all syncD N (by omega) (by omega) syncD_fit
  obtain ⟨M2, hM2, r2, l2, f2⟩ := many_all longB 1024 (by decide) (by decide) longB_fit
  obtain ⟨M3, hM3, r3, l3, f3⟩ := many_all longB 1025 (by decide) (by decide) longB_fit
  have g2 := many_good longB_good (n := 1024) (by decide) (by rw [longB_len]; decide)
  have g3 := many_long longB_good (n := 1025) (by decide) (by rw [longB_len]; decide)
  rw [hM2, longB_len] at g2
  rw [hM3] at g3
  have HR1 := Lib.hid r1
  have HR2 := Lib.hid r2
  have HR3 := Lib.hid r3
  have HL1 := Lib.hid l1
  have HL2 := Lib.hid l2
  have HL3 := Lib.hid l3
  have HF1 := Lib.hid f1
  have HF2 := Lib.hid f2
  have HF3 := Lib.hid f3
  have HG3 := Lib.hid g3
  obtain ⟨P2, hP2⟩ : ∃ P2, paT M2 = P2 := ⟨_, rfl⟩
  rw [hP2] at g2
  have HG2 := Lib.hid (And.intro g2.1 (And.intro hP2 g2.2))
  clear r1 r2 r3 l1 l2 l3 f1 f2 f3 g2 g3 hM2 hM3 hP2 hR hZ
  by_cases hR2 : R ≤ 2
  · have d1 : decide (0 < K) = false := decide_eq_false (by omega)
    have d2 : decide (K ≤ 0) = true := decide_eq_true (by omega)
    have g1 := many_good syncD_good (n := N) (by omega) (by rw [sync_len]; omega)
    obtain ⟨Q, hQ⟩ : ∃ Q : ByteArray, (⟨(Lib.repeatL [115, 121, 110, 99, 10] N).toArray⟩ : ByteArray) = Q := ⟨_, rfl⟩
    have hQs : Q.size = 5 * N := by rw [← hQ]; exact line_bytes N
    have hQd : Q.data.toList = Lib.repeatL [115, 121, 110, 99, 10] N := by rw [← hQ]
    obtain ⟨S, hS⟩ : ∃ S : ByteArray, Q ++ ⟨#[35, 10]⟩ = S := ⟨_, rfl⟩
    have hSs : S.size = 5 * N + 2 := by rw [← hS, ByteArray.size_append, hQs]; rfl
    have h1 := many_read syncD_good (n := N) (by omega) (s := S) (by rw [sync_text, ← hS, ByteArray.data_append, Array.toList_append, hQd]) (by omega)
    rw [hM1] at g1 h1
    rw [sync_len] at g1
    obtain ⟨P1, hP1⟩ : ∃ P1, paT M1 = P1 := ⟨_, rfl⟩
    rw [hP1] at g1
    have HG1 := Lib.hid (And.intro g1.1 (And.intro hP1 g1.2))
    have HQ := Lib.hid hQ
    have HS := Lib.hid hS
    have HRD := Lib.hid h1
    have HSS : Hid (S.size ≤ 100000) := by show _ ≤ _; omega
    have q1 : ¬ 9223372036854775807 < Q.size + 2 := by omega
    have hmul : IntKind.i64.wrap (5 * (N : Int)) = 5 * (N : Int) := IntWalk.i64_in _ (by omega)
    have d5 : ((P1.size : Int) != 5 * (N : Int)) = false := by rw [bne_eq_false_iff_eq, g1.2]; omega
    have d6 : ((N : Int) != (N : Int)) = false := by rw [bne_eq_false_iff_eq]
    clear hR2 g1 hQ hS h1 hP1 hQs hQd hSs hM1 hK hN hR4
    go_enter Tryz.func11, Tryz.ntmps11
    have c1 := Lib.hid ((Below.refl w.heap.size w).alloc (Nat.le_refl _) (.cells #[.int .i64 4, .int .i64 0, .int .i64 0, .string ⟨#[]⟩, .string ⟨#[]⟩] 28))
    have HO := Lib.hid (OpsAt.one w syncD 28)
    go_wp2_with fail
    refine (HR1.out _ _ HO.out).mono ?_
    rintro e w1 ⟨v1, rfl, h1, b1⟩
    obtain ⟨p1, n1, rfl⟩ := ownsRow_slice h1
    have HA1 := Lib.hid (OpsNew.at h1)
    have c2 := Lib.hid (c1.out.trans (b1.mono c1.out.size))
    clear c1
    have c1 := Lib.hid c2.out
    clear c2
    clear b1 h1 HO HR1
    go_wp2_with fail
    refine (printAll_any _ M1 HF1.out (by have := HL1.out; have := HN.out; omega) m _ (HE.out.below c1.out) HA1.out).mono ?_
    rw [HG1.out.1, HG1.out.2.1]
    rintro e w2 ⟨rfl, b1⟩
    have c2 := Lib.hid (c1.out.trans (b1.mono c1.out.size))
    clear c1
    have c1 := Lib.hid c2.out
    clear c2
    clear b1 HA1
    go_wp2_with fail
    refine (rep_line N (by have := HN.out; omega) (by have := HN.out; omega) _).mono ?_
    rw [HQ.out]
    rintro e w3 ⟨rfl, b1⟩
    have c2 := Lib.hid (c1.out.trans (b1.mono c1.out.size))
    clear c1
    have c1 := Lib.hid c2.out
    clear c2
    clear b1
    go_wp2_with fail
    rw [HS.out]
    refine (parseAll_is S HSS.out M1 0 0 HRD.out m _ (HE.out.below c1.out)).mono ?_
    rintro e w4 ⟨⟨p4, n4, rfl, h4⟩, b1⟩
    have c2 := Lib.hid (c1.out.trans (b1.mono c1.out.size))
    clear c1
    have c1 := Lib.hid c2.out
    clear c2
    clear b1 h4 HRD HQ HS HSS
    rw [HL1.out]
    go_wp2_with fail
    refine (rep_byte 118 27 (by decide) (by decide) _).mono ?_
    rintro e w5 ⟨rfl, b1⟩
    have c2 := Lib.hid (c1.out.trans (b1.mono c1.out.size))
    clear c1
    have c1 := Lib.hid c2.out
    clear c2
    clear b1
    obtain ⟨V0, hV0⟩ : ∃ V0 : ByteArray, (⟨(Lib.repeatL [118] 27).toArray⟩ : ByteArray) = V0 := ⟨_, rfl⟩
    have hVs : V0.size = 27 := by rw [← hV0]; rfl
    have qv : ¬ 9223372036854775807 < V0.size + 1 := by omega
    have hlv : V0 ++ ⟨#[119]⟩ = longV := by rw [← hV0]; rfl
    rw [hV0]
    clear hV0 hVs
    obtain ⟨V, hV⟩ : ∃ V, V0 ++ ⟨#[119]⟩ = V := ⟨_, rfl⟩
    rw [hV] at hlv
    have HLA : Hid ((⟨1, 0, 0, ⟨#[97, 98, 99]⟩, V⟩ : OpD) = longA) := by show _ = _; rw [hlv]; rfl
    have HLB : Hid ((⟨1, 0, 0, ⟨#[97, 98]⟩, V⟩ : OpD) = longB) := by show _ = _; rw [hlv]; rfl
    have HVV := Lib.hid hV
    clear hlv hV
    go_upto_region 11 with fail
    rw [HVV.out]
    clear qv HVV
    have HC := Lib.hid (OpBox.new w5 1 0 0 ⟨#[97, 98, 99]⟩ V 28)
    have b1 := (Below.refl w5.heap.size w5).alloc (Nat.le_refl _) (.cells #[.int .i64 1, .int .i64 0, .int .i64 0, .string ⟨#[97, 98, 99]⟩, .string V] 28)
    have HLT := Lib.hid c1.out.size
    have c2 := Lib.hid (c1.out.trans (b1.mono c1.out.size))
    clear c1
    have c1 := Lib.hid c2.out
    clear c2
    clear b1
    generalize (w5.alloc (.cells #[.int .i64 1, .int .i64 0, .int .i64 0, .string ⟨#[97, 98, 99]⟩, .string V] 28)) = w6 at *
    obtain ⟨C, hC⟩ : ∃ C, w5.heap.size = C := ⟨_, rfl⟩
    rw [hC] at HC HLT
    rw [hC]
    clear hC
    obtain ⟨⟨k0, k1, k2, k3, k4⟩, kf⟩ := HC.out
    clear kf
    go_wp2_with fail
    have hpr := longA_print
    obtain ⟨X, hX⟩ : ∃ X, prT longA = X := ⟨_, rfl⟩
    rw [hX, ← HLA.out] at hpr
    rw [← HLA.out] at hX
    have d7 : ((X.size : Int) != 64) = false := by rw [hpr.1]; rfl
    have hfA := longA_fit
    rw [← HLA.out] at hfA
    refine (print_any 1 0 0 ⟨#[97, 98, 99]⟩ V hfA m _ (HE.out.below c1.out)).mono ?_
    rw [hX, hpr.2]
    clear hX hpr hfA
    rintro e w7 ⟨rfl, b1⟩
    have c2 := Lib.hid (c1.out.trans (b1.mono c1.out.size))
    clear c1
    have c1 := Lib.hid c2.out
    clear c2
    have hh := Lib.hid (HC.out.below b1)
    clear HC
    have HC := Lib.hid hh.out
    clear hh
    clear b1 k0 k1 k2 k3 k4
    obtain ⟨⟨k0, k1, k2, k3, k4⟩, kf⟩ := HC.out
    have kf3 := kf 3
    clear kf
    go_upto_region 15 with fail
    have c2 := Lib.hid (below_set c1.out C HLT.out 3 (.string ⟨#[97, 98]⟩))
    have HC2 := Lib.hid (HC.out.set3 ⟨#[97, 98]⟩)
    clear c1 HC k0 k1 k2 k3 k4 kf3 d7
    generalize (w7.setCell ⟨C, 3, none⟩ (.string ⟨#[97, 98]⟩)) = w8 at *
    have c1 := Lib.hid c2.out
    have HC := Lib.hid HC2.out
    clear c2 HC2
    obtain ⟨⟨k0, k1, k2, k3, k4⟩, kf⟩ := HC.out
    clear kf
    have HO : Hid (OpsAt (w8.alloc (.cells #[.int .i64 1, .int .i64 0, .int .i64 0, .string ⟨#[97, 98]⟩, .string V] 28)) (.slice (some ⟨w8.heap.size, 0, none⟩) 1 1) [longB]) := by
      show OpsAt _ _ [longB]
      rw [← HLB.out]
      exact OpsAt.one w8 ⟨1, 0, 0, ⟨#[97, 98]⟩, V⟩ 28
    have b1 := (Below.refl w8.heap.size w8).alloc (Nat.le_refl _) (.cells #[.int .i64 1, .int .i64 0, .int .i64 0, .string ⟨#[97, 98]⟩, .string V] 28)
    go_wp2_with fail
    have c2 := Lib.hid (c1.out.trans (b1.mono c1.out.size))
    clear c1
    have c1 := Lib.hid c2.out
    clear c2
    have hh := Lib.hid (HC.out.below b1)
    clear HC
    have HC := Lib.hid hh.out
    clear hh
    clear b1 k0 k1 k2 k3 k4
    refine (HR2.out _ _ HO.out).mono ?_
    rintro e wa1 ⟨va1, rfl, h1, b1⟩
    obtain ⟨pa1, na1, rfl⟩ := ownsRow_slice h1
    have HA1 := Lib.hid (OpsNew.at h1)
    have c2 := Lib.hid (c1.out.trans (b1.mono c1.out.size))
    clear c1
    have c1 := Lib.hid c2.out
    clear c2
    have hh := Lib.hid (HC.out.below b1)
    clear HC
    have HC := Lib.hid hh.out
    clear hh
    clear b1 h1 HO
    go_wp2_with fail
    refine (printAll_any _ M2 HF2.out (by have := HL2.out; omega) m _ (HE.out.below c1.out) HA1.out).mono ?_
    rw [HG2.out.1, HG2.out.2.1]
    rintro e w9 ⟨rfl, b1⟩
    have c2 := Lib.hid (c1.out.trans (b1.mono c1.out.size))
    clear c1
    have c1 := Lib.hid c2.out
    clear c2
    have hh := Lib.hid (HC.out.below b1)
    clear HC
    have HC := Lib.hid hh.out
    clear hh
    clear b1 HA1
    obtain ⟨⟨k0, k1, k2, k3, k4⟩, kf⟩ := HC.out
    clear kf
    have HO : Hid (OpsAt (w9.alloc (.cells #[.int .i64 1, .int .i64 0, .int .i64 0, .string ⟨#[97, 98]⟩, .string V] 28)) (.slice (some ⟨w9.heap.size, 0, none⟩) 1 1) [longB]) := by
      show OpsAt _ _ [longB]
      rw [← HLB.out]
      exact OpsAt.one w9 ⟨1, 0, 0, ⟨#[97, 98]⟩, V⟩ 28
    have b1 := (Below.refl w9.heap.size w9).alloc (Nat.le_refl _) (.cells #[.int .i64 1, .int .i64 0, .int .i64 0, .string ⟨#[97, 98]⟩, .string V] 28)
    go_wp2_with fail
    have c2 := Lib.hid (c1.out.trans (b1.mono c1.out.size))
    clear c1
    have c1 := Lib.hid c2.out
    clear c2
    have hh := Lib.hid (HC.out.below b1)
    clear HC
    have HC := Lib.hid hh.out
    clear hh
    clear b1 k0 k1 k2 k3 k4
    refine (HR3.out _ _ HO.out).mono ?_
    rintro e wa2 ⟨va2, rfl, h1, b1⟩
    obtain ⟨pa2, na2, rfl⟩ := ownsRow_slice h1
    have HA1 := Lib.hid (OpsNew.at h1)
    have c2 := Lib.hid (c1.out.trans (b1.mono c1.out.size))
    clear c1
    have c1 := Lib.hid c2.out
    clear c2
    have hh := Lib.hid (HC.out.below b1)
    clear HC
    have HC := Lib.hid hh.out
    clear hh
    clear b1 h1 HO
    go_wp2_with fail
    refine (printAll_any _ M3 HF3.out (by have := HL3.out; omega) m _ (HE.out.below c1.out) HA1.out).mono ?_
    rw [HG3.out.1, HG3.out.2, show eB = (⟨#[]⟩ : ByteArray) from rfl]
    rintro e w10 ⟨rfl, b1⟩
    have c2 := Lib.hid (c1.out.trans (b1.mono c1.out.size))
    clear c1
    have c1 := Lib.hid c2.out
    clear c2
    clear b1 HA1 HC
    go_wp2_with fail
    refine (rep_byte 35 Z (by have := HZ.out; omega) (by have := HZ.out; omega) _).mono ?_
    rintro e w11 ⟨rfl, b1⟩
    have c2 := Lib.hid (c1.out.trans (b1.mono c1.out.size))
    clear c1
    have c1 := Lib.hid c2.out
    clear c2
    clear b1
    obtain ⟨H, hH⟩ : ∃ H : ByteArray, (⟨(Lib.repeatL [35] Z).toArray⟩ : ByteArray) = H := ⟨_, rfl⟩
    have hHs : H.size = Z := by rw [← hH]; exact hash_bytes Z
    have HHS := Lib.hid hHs
    rw [hH]
    clear hH hHs
    go_wp2_with fail
    refine (parseAll_is H (by have := HHS.out; have := HZ.out; omega) [] 0 9 (rdA_long (by have := HHS.out; have := HZ.out; omega)) m _ (HE.out.below c1.out)).mono ?_
    rintro e w12 ⟨⟨p12, n12, rfl, h12⟩, b1⟩
    have c2 := Lib.hid (c1.out.trans (b1.mono c1.out.size))
    clear c1
    have c1 := Lib.hid c2.out
    clear c2
    clear b1 h12
    have d8 : ((P2.size : Int) == 65536) = true := by rw [HG2.out.2.2]; rfl
    go_wp2_with fail
    refine (works39_any m _ (HE.out.below c1.out)).mono ?_
    rintro e w13 ⟨rfl, b1⟩
    have c2 := Lib.hid (c1.out.trans (b1.mono c1.out.size))
    clear c1
    have c1 := Lib.hid c2.out
    clear c2
    clear b1
    go_wp2_with fail
    go_ret
    exact ⟨rfl, c1.out⟩
  · have d1 : decide (0 < K) = true := decide_eq_true (by omega)
    have d2 : decide (K ≤ 0) = false := decide_eq_false (by omega)
    have g1 := many_more (o := syncD) (n := N) (by omega)
    obtain ⟨Q, hQ⟩ : ∃ Q : ByteArray, (⟨(Lib.repeatL [115, 121, 110, 99, 10] N).toArray⟩ : ByteArray) = Q := ⟨_, rfl⟩
    have hQs : Q.size = 5 * N := by rw [← hQ]; exact line_bytes N
    have hQd : Q.data.toList = Lib.repeatL [115, 121, 110, 99, 10] N := by rw [← hQ]
    obtain ⟨S, hS⟩ : ∃ S : ByteArray, Q ++ ⟨#[35, 10]⟩ = S := ⟨_, rfl⟩
    have hSs : S.size = 5 * N + 2 := by rw [← hS, ByteArray.size_append, hQs]; rfl
    obtain ⟨n0, hn0, hn1⟩ : ∃ n0, n0 + 1 = N ∧ n0 = 2000 := ⟨N - 1, by omega, by omega⟩
    have h1 := many_read_more syncD_good (n := n0) hn1 (s := S) (by rw [hn0, sync_text, ← hS, ByteArray.data_append, Array.toList_append, hQd]) (by omega)
    rw [hM1] at g1
    have HG1 := Lib.hid g1
    have HQ := Lib.hid hQ
    have HS := Lib.hid hS
    have HRD := Lib.hid h1
    have HSS : Hid (S.size ≤ 100000) := by show _ ≤ _; omega
    have q1 : ¬ 9223372036854775807 < Q.size + 2 := by omega
    clear hR2 g1 hQ hS h1 hQs hQd hSs hM1 hK hN hR4 hn0 hn1
    go_enter Tryz.func11, Tryz.ntmps11
    have c1 := Lib.hid ((Below.refl w.heap.size w).alloc (Nat.le_refl _) (.cells #[.int .i64 4, .int .i64 0, .int .i64 0, .string ⟨#[]⟩, .string ⟨#[]⟩] 28))
    have HO := Lib.hid (OpsAt.one w syncD 28)
    go_wp2_with fail
    refine (HR1.out _ _ HO.out).mono ?_
    rintro e w1 ⟨v1, rfl, h1, b1⟩
    obtain ⟨p1, n1, rfl⟩ := ownsRow_slice h1
    have HA1 := Lib.hid (OpsNew.at h1)
    have c2 := Lib.hid (c1.out.trans (b1.mono c1.out.size))
    clear c1
    have c1 := Lib.hid c2.out
    clear c2
    clear b1 h1 HO HR1
    go_wp2_with fail
    refine (printAll_any _ M1 HF1.out (by have := HL1.out; have := HN.out; omega) m _ (HE.out.below c1.out) HA1.out).mono ?_
    rw [HG1.out.1, HG1.out.2, show eB = (⟨#[]⟩ : ByteArray) from rfl]
    rintro e w2 ⟨rfl, b1⟩
    have c2 := Lib.hid (c1.out.trans (b1.mono c1.out.size))
    clear c1
    have c1 := Lib.hid c2.out
    clear c2
    clear b1 HA1
    go_wp2_with fail
    refine (rep_line N (by have := HN.out; omega) (by have := HN.out; omega) _).mono ?_
    rw [HQ.out]
    rintro e w3 ⟨rfl, b1⟩
    have c2 := Lib.hid (c1.out.trans (b1.mono c1.out.size))
    clear c1
    have c1 := Lib.hid c2.out
    clear c2
    clear b1
    go_wp2_with fail
    rw [HS.out]
    refine (parseAll_is S HSS.out [] 2001 10 HRD.out m _ (HE.out.below c1.out)).mono ?_
    rintro e w4 ⟨⟨p4, n4, rfl, h4⟩, b1⟩
    have c2 := Lib.hid (c1.out.trans (b1.mono c1.out.size))
    clear c1
    have c1 := Lib.hid c2.out
    clear c2
    clear b1 h4 HRD HQ HS HSS
    go_wp2_with fail
    refine (rep_byte 118 27 (by decide) (by decide) _).mono ?_
    rintro e w5 ⟨rfl, b1⟩
    have c2 := Lib.hid (c1.out.trans (b1.mono c1.out.size))
    clear c1
    have c1 := Lib.hid c2.out
    clear c2
    clear b1
    obtain ⟨V0, hV0⟩ : ∃ V0 : ByteArray, (⟨(Lib.repeatL [118] 27).toArray⟩ : ByteArray) = V0 := ⟨_, rfl⟩
    have hVs : V0.size = 27 := by rw [← hV0]; rfl
    have qv : ¬ 9223372036854775807 < V0.size + 1 := by omega
    have hlv : V0 ++ ⟨#[119]⟩ = longV := by rw [← hV0]; rfl
    rw [hV0]
    clear hV0 hVs
    obtain ⟨V, hV⟩ : ∃ V, V0 ++ ⟨#[119]⟩ = V := ⟨_, rfl⟩
    rw [hV] at hlv
    have HLA : Hid ((⟨1, 0, 0, ⟨#[97, 98, 99]⟩, V⟩ : OpD) = longA) := by show _ = _; rw [hlv]; rfl
    have HLB : Hid ((⟨1, 0, 0, ⟨#[97, 98]⟩, V⟩ : OpD) = longB) := by show _ = _; rw [hlv]; rfl
    have HVV := Lib.hid hV
    clear hlv hV
    go_upto_region 11 with fail
    rw [HVV.out]
    clear qv HVV
    have HC := Lib.hid (OpBox.new w5 1 0 0 ⟨#[97, 98, 99]⟩ V 28)
    have b1 := (Below.refl w5.heap.size w5).alloc (Nat.le_refl _) (.cells #[.int .i64 1, .int .i64 0, .int .i64 0, .string ⟨#[97, 98, 99]⟩, .string V] 28)
    have HLT := Lib.hid c1.out.size
    have c2 := Lib.hid (c1.out.trans (b1.mono c1.out.size))
    clear c1
    have c1 := Lib.hid c2.out
    clear c2
    clear b1
    generalize (w5.alloc (.cells #[.int .i64 1, .int .i64 0, .int .i64 0, .string ⟨#[97, 98, 99]⟩, .string V] 28)) = w6 at *
    obtain ⟨C, hC⟩ : ∃ C, w5.heap.size = C := ⟨_, rfl⟩
    rw [hC] at HC HLT
    rw [hC]
    clear hC
    obtain ⟨⟨k0, k1, k2, k3, k4⟩, kf⟩ := HC.out
    clear kf
    go_wp2_with fail
    have hpr := longA_print
    obtain ⟨X, hX⟩ : ∃ X, prT longA = X := ⟨_, rfl⟩
    rw [hX, ← HLA.out] at hpr
    rw [← HLA.out] at hX
    have d7 : ((X.size : Int) != 64) = false := by rw [hpr.1]; rfl
    have hfA := longA_fit
    rw [← HLA.out] at hfA
    refine (print_any 1 0 0 ⟨#[97, 98, 99]⟩ V hfA m _ (HE.out.below c1.out)).mono ?_
    rw [hX, hpr.2]
    clear hX hpr hfA
    rintro e w7 ⟨rfl, b1⟩
    have c2 := Lib.hid (c1.out.trans (b1.mono c1.out.size))
    clear c1
    have c1 := Lib.hid c2.out
    clear c2
    have hh := Lib.hid (HC.out.below b1)
    clear HC
    have HC := Lib.hid hh.out
    clear hh
    clear b1 k0 k1 k2 k3 k4
    obtain ⟨⟨k0, k1, k2, k3, k4⟩, kf⟩ := HC.out
    have kf3 := kf 3
    clear kf
    go_upto_region 15 with fail
    have c2 := Lib.hid (below_set c1.out C HLT.out 3 (.string ⟨#[97, 98]⟩))
    have HC2 := Lib.hid (HC.out.set3 ⟨#[97, 98]⟩)
    clear c1 HC k0 k1 k2 k3 k4 kf3 d7
    generalize (w7.setCell ⟨C, 3, none⟩ (.string ⟨#[97, 98]⟩)) = w8 at *
    have c1 := Lib.hid c2.out
    have HC := Lib.hid HC2.out
    clear c2 HC2
    obtain ⟨⟨k0, k1, k2, k3, k4⟩, kf⟩ := HC.out
    clear kf
    have HO : Hid (OpsAt (w8.alloc (.cells #[.int .i64 1, .int .i64 0, .int .i64 0, .string ⟨#[97, 98]⟩, .string V] 28)) (.slice (some ⟨w8.heap.size, 0, none⟩) 1 1) [longB]) := by
      show OpsAt _ _ [longB]
      rw [← HLB.out]
      exact OpsAt.one w8 ⟨1, 0, 0, ⟨#[97, 98]⟩, V⟩ 28
    have b1 := (Below.refl w8.heap.size w8).alloc (Nat.le_refl _) (.cells #[.int .i64 1, .int .i64 0, .int .i64 0, .string ⟨#[97, 98]⟩, .string V] 28)
    go_wp2_with fail
    have c2 := Lib.hid (c1.out.trans (b1.mono c1.out.size))
    clear c1
    have c1 := Lib.hid c2.out
    clear c2
    have hh := Lib.hid (HC.out.below b1)
    clear HC
    have HC := Lib.hid hh.out
    clear hh
    clear b1 k0 k1 k2 k3 k4
    refine (HR2.out _ _ HO.out).mono ?_
    rintro e wa1 ⟨va1, rfl, h1, b1⟩
    obtain ⟨pa1, na1, rfl⟩ := ownsRow_slice h1
    have HA1 := Lib.hid (OpsNew.at h1)
    have c2 := Lib.hid (c1.out.trans (b1.mono c1.out.size))
    clear c1
    have c1 := Lib.hid c2.out
    clear c2
    have hh := Lib.hid (HC.out.below b1)
    clear HC
    have HC := Lib.hid hh.out
    clear hh
    clear b1 h1 HO
    go_wp2_with fail
    refine (printAll_any _ M2 HF2.out (by have := HL2.out; omega) m _ (HE.out.below c1.out) HA1.out).mono ?_
    rw [HG2.out.1, HG2.out.2.1]
    rintro e w9 ⟨rfl, b1⟩
    have c2 := Lib.hid (c1.out.trans (b1.mono c1.out.size))
    clear c1
    have c1 := Lib.hid c2.out
    clear c2
    have hh := Lib.hid (HC.out.below b1)
    clear HC
    have HC := Lib.hid hh.out
    clear hh
    clear b1 HA1
    obtain ⟨⟨k0, k1, k2, k3, k4⟩, kf⟩ := HC.out
    clear kf
    have HO : Hid (OpsAt (w9.alloc (.cells #[.int .i64 1, .int .i64 0, .int .i64 0, .string ⟨#[97, 98]⟩, .string V] 28)) (.slice (some ⟨w9.heap.size, 0, none⟩) 1 1) [longB]) := by
      show OpsAt _ _ [longB]
      rw [← HLB.out]
      exact OpsAt.one w9 ⟨1, 0, 0, ⟨#[97, 98]⟩, V⟩ 28
    have b1 := (Below.refl w9.heap.size w9).alloc (Nat.le_refl _) (.cells #[.int .i64 1, .int .i64 0, .int .i64 0, .string ⟨#[97, 98]⟩, .string V] 28)
    go_wp2_with fail
    have c2 := Lib.hid (c1.out.trans (b1.mono c1.out.size))
    clear c1
    have c1 := Lib.hid c2.out
    clear c2
    have hh := Lib.hid (HC.out.below b1)
    clear HC
    have HC := Lib.hid hh.out
    clear hh
    clear b1 k0 k1 k2 k3 k4
    refine (HR3.out _ _ HO.out).mono ?_
    rintro e wa2 ⟨va2, rfl, h1, b1⟩
    obtain ⟨pa2, na2, rfl⟩ := ownsRow_slice h1
    have HA1 := Lib.hid (OpsNew.at h1)
    have c2 := Lib.hid (c1.out.trans (b1.mono c1.out.size))
    clear c1
    have c1 := Lib.hid c2.out
    clear c2
    have hh := Lib.hid (HC.out.below b1)
    clear HC
    have HC := Lib.hid hh.out
    clear hh
    clear b1 h1 HO
    go_wp2_with fail
    refine (printAll_any _ M3 HF3.out (by have := HL3.out; omega) m _ (HE.out.below c1.out) HA1.out).mono ?_
    rw [HG3.out.1, HG3.out.2, show eB = (⟨#[]⟩ : ByteArray) from rfl]
    rintro e w10 ⟨rfl, b1⟩
    have c2 := Lib.hid (c1.out.trans (b1.mono c1.out.size))
    clear c1
    have c1 := Lib.hid c2.out
    clear c2
    clear b1 HA1 HC
    go_wp2_with fail
    refine (rep_byte 35 Z (by have := HZ.out; omega) (by have := HZ.out; omega) _).mono ?_
    rintro e w11 ⟨rfl, b1⟩
    have c2 := Lib.hid (c1.out.trans (b1.mono c1.out.size))
    clear c1
    have c1 := Lib.hid c2.out
    clear c2
    clear b1
    obtain ⟨H, hH⟩ : ∃ H : ByteArray, (⟨(Lib.repeatL [35] Z).toArray⟩ : ByteArray) = H := ⟨_, rfl⟩
    have hHs : H.size = Z := by rw [← hH]; exact hash_bytes Z
    have HHS := Lib.hid hHs
    rw [hH]
    clear hH hHs
    go_wp2_with fail
    refine (parseAll_is H (by have := HHS.out; have := HZ.out; omega) [] 0 9 (rdA_long (by have := HHS.out; have := HZ.out; omega)) m _ (HE.out.below c1.out)).mono ?_
    rintro e w12 ⟨⟨p12, n12, rfl, h12⟩, b1⟩
    have c2 := Lib.hid (c1.out.trans (b1.mono c1.out.size))
    clear c1
    have c1 := Lib.hid c2.out
    clear c2
    clear b1 h12
    have d8 : ((P2.size : Int) == 65536) = true := by rw [HG2.out.2.2]; rfl
    go_wp2_with fail
    refine (works39_any m _ (HE.out.below c1.out)).mono ?_
    rintro e w13 ⟨rfl, b1⟩
    have c2 := Lib.hid (c1.out.trans (b1.mono c1.out.size))
    clear c1
    have c1 := Lib.hid c2.out
    clear c2
    clear b1
    go_wp2_with fail
    go_ret
    exact ⟨rfl, c1.out⟩
end Go.Proofs.YtlmbcclggaflaaaGreatDoor
namespace Go.Proofs.YtlmbcclggaflaaaGreatDoor.lawOpMany
open Go Go.RowKit Go.ChangeShapes Go.WideShapes Go.ChangeAt
open Go.ChangeMaps (open_string shut_string)

set_option maxRecDepth 100000 in
theorem contract (H : Type) (enc : TypeId × Value → H) (W : World) (base : Nat) (args : Array Value) (ds gs : List (DataW H)) (before : List MemPlace)
    (hval : ∀ (j : Nat) t v, Tryz.f11.params[j]? = some t → args[j]? = some v → Value.okWide Tryz.prog W .any base t v)
    (hW : DataW.Whole enc Tryz.prog Tryz.f11.params.toList Rows.opManySpec.vars false W args.toList ds gs before) (hL : laidMetH Tryz.prog Rows.opManyRow.laid W) (hR : (DataW.weightsEach Tryz.prog (Tryz.f11.params.toList ++ (OpenSpec.ofChange Rows.opManySpec).bare.plain.varTypes Tryz.prog) (ds ++ gs)).all (· ≤ reachBytes) = true) (hS : W.ShapedOpen Tryz.prog) :
    Calls Tryz.prog 11 args W fun e W' => ∃ v, e = .returned v ∧ Rows.opManySpec.post enc Tryz.prog Tryz.f11 false true false false W args v W' := by
  have hW' := hW
  obtain ⟨p, q, hA0, hV, rfl, hfz, hnd⟩ := hW
  have hA : DataW.TrodAll enc Tryz.prog W 0 (fun _ => true) true Tryz.f11.params.toList args.toList ds p := hA0
  rw [Tryz.params11] at hA hval
  obtain ⟨v0, vs0, d0, ds0, p0, q0, hargs, rfl, rfl, h0, r0⟩ := trodAll_cons hA
  obtain ⟨rfl, rfl, rfl⟩ := trodAll_nil r0
  obtain rfl : args = #[v0] := by cases args; simp_all
  obtain ⟨rfl, rfl⟩ := trodVars_none hV
  obtain ⟨mL, hm⟩ := maxLen_of hS
  obtain ⟨a0, rfl, rfl, rfl, ws0⟩ := open_int Tryz.underlying5 (hval 0 5 v0 rfl rfl) h0
  clear hA0
  simp only [List.append_nil] at hW'
  refine (walkOpMany a0 ws0 mL W (tab_of_laid hL) (errs_of_laid hL) hm).mono fun e W' ⟨he, hb⟩ => ?_
  subst he
  refine ⟨_, rfl, _, _, _, [], [], [], hW', ?_, ?_, rfl, hb.frame _, fun h => by cases h⟩
  · exact trodAll_cons_mk (shut_bool Tryz.underlying4 _) trodAll_mk0
  · exact trodAll_cons_mk (shut_int Tryz.underlying5 ws0) trodAll_mk0

theorem reads (os : Os) {H : Type} (enc : TypeId × Value → H) : ∃ places, DataW.whole enc Tryz.prog ((laidWorld os).forCall (fun _ _ => 0) ⟨#[], #[.int .u8 0], []⟩).memory Tryz.f11.params.toList Rows.opManySpec.vars false (#[.int .u8 0] : Array Value).toList 8 = some ([.lit (.int .u8 0)], [], places) :=
  ⟨[], by kernel_rfl⟩

set_option maxRecDepth 100000 in
theorem lifted (os : Os) (started : os.Started) (H : Type) (enc : TypeId × Value → H) (F : Stop.Interp) :
    ReturnsInHanded {} Tryz.checked os 11 .any ((OpenSpec.ofChange Rows.opManySpec).preRow enc Tryz.prog Tryz.f11 Rows.opManyRow.domain false Rows.opManyRow.laid) (((OpenSpec.ofChange Rows.opManySpec).at F).post enc Tryz.prog Tryz.f11 false true false false) := by
  obtain ⟨places, hx⟩ := reads os enc
  refine returnsInHanded_of_row (C := Tryz.checked) (s := OpenSpec.ofChange Rows.opManySpec) own started (by kernel_rfl) Tryz.func11
    (witness_row_atRef (enc := enc) (C := Tryz.checked) false (laidWorld os) #[.int .u8 0] rfl (by kernel_rfl) (by kernel_rfl) (by kernel_rfl)
      (OpenSpec.preRow_of_cond 8 hx (by kernel_rfl) (fun k hk => by cases hk) (by kernel_rfl) (laid_met os _))) ?_
  intro W base args ds gs before hval hW _ _ hR hL hS _
  exact contract H enc W base args ds gs before hval hW hL hR hS

theorem said : Rows.OpManySaid :=
  OpenClaim.holds_of_cond 11 Tryz.f11 rfl rfl rfl rfl rfl rfl rfl ⟨rfl, rfl, rfl, rfl, rfl⟩ rfl rfl rfl rfl rfl (by kernel_rfl) Tryz.func11 (by kernel_rfl)
    (of_decide_eq_true (by kernel_rfl)) (by unfold Func.isWrapper; first | (rw [if_pos (by decide +kernel)]; kernel_rfl) | (rw [if_neg (by decide +kernel)]; exact ⟨rfl, rfl⟩))
    (fun os started H enc _ F => by rw [OpenClaim.pre_eq_preRow]; exact lifted os started H enc F)

theorem plain (f : FuncId) (fn : Func) (hf : Tryz.pinned.checked.prog.funcNamed Tryz.f11.name = some f) (hfn : Tryz.pinned.checked.prog.funcs[f]? = some fn) :
    true = Tryz.pinned.checked.prog.looks [] ∧ ∀ (j : Nat) t, fn.params[j]? = some t → Tryz.pinned.checked.prog.wantsStandIn t = false := by
  obtain rfl : f = 11 := Option.some.inj ((show Tryz.prog.funcNamed Tryz.f11.name = some 11 by kernel_rfl).symm.trans hf) |>.symm
  obtain rfl : fn = Tryz.f11 := (Option.some.inj (Tryz.func11.symm.trans hfn)).symm
  refine ⟨by kernel_rfl, fun j t ht => ?_⟩
  have key : Tryz.f11.params.all (fun t => !Tryz.prog.wantsStandIn t) = true := by kernel_rfl
  have h2 := Array.all_eq_true_iff_forall_mem.1 key t (Array.mem_of_getElem? ht)
  rw [Bool.not_eq_true'] at h2
  exact h2

theorem proved : Rows.OpManyCardSaid :=
  Claim7.holds_tied_plain_at .later [] _ _ _ _ said (fun _ h => by cases h) (by kernel_rfl) (fun _ h => by cases h) opMany_row_tie rfl ⟨rfl, rfl⟩ (by kernel_rfl) rfl plain (by kernel_rfl)
end Go.Proofs.YtlmbcclggaflaaaGreatDoor.lawOpMany
