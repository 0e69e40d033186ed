/-
  Slices of operations as an argument: what they are as values.
  copy of elements of more than one cell into a row that the call made; plain: a list one behind the other.
  The first operations of a slice.
  slices.Repeat and slices.Clone at operations.
  slices.Clone at operations.
  The reference of layer 39: PrintAll.
  OpLists: the walk.
  OpLists: for every input the law returns true, and each argument reads behind the call as before it: the statement and its card.
  Conditions: none.
-/
import Derived.Test.YtlmbcclggaflaaaGreatDoorBuH
import Derived.Test.YtlmbcclggaflaaaGreatDoorBuB
import Derived.Deep.Slices
import Derived.Laws.CopyOwn
import Derived.Test.YtlmbcclggaflaaaGreatDoorBuA
import Derived.Deep.RegionLaw
import Derived.Test.YtlmbcclggaflaaaGreatDoorBuF
import Derived.Test.YtlmbcclggaflaaaGreatDoorBuG
set_option linter.unusedVariables false
namespace Go.Proofs.YtlmbcclggaflaaaGreatDoor
open Go Go.RowKit Go.ChangeShapes Go.WideShapes Go.ChangeAt

theorem spot_freeO {W : World} {a : Addr} {v : Value} (h1 : W.cell? (a.add 0) = some v) : a.spot = none := by
  unfold World.cell? at h1
  split at h1
  · split at h1
    · cases h1
    · rename_i hs
      simpa [Addr.add] using hs
  · cases h1
theorem weightsAll_memO {H : Type} {P : Program} {e : TypeId} : ∀ {l : List (DataW H)} {d : DataW H}, d ∈ l → ∀ n ∈ d.weights P e, n ∈ DataW.weightsAll P e l
  | [], d, h, _, _ => by cases h
  | x :: r, d, h, n, hn => by
    rw [DataW.weightsAll]
    rcases List.mem_cons.1 h with rfl | h
    · exact List.mem_append.2 (Or.inl hn)
    · exact List.mem_append.2 (Or.inr (weightsAll_memO h n hn))
set_option maxRecDepth 100000 in
theorem open_ops {H : Type} {enc : TypeId × Value → H} {W : World} {v : Value} {d : DataW H} {ps : List MemPlace} (h : DataW.Trod enc Tryz.prog W 0 (fun _ => true) true 35 v d ps)
    (hv : ∃ a len cap, v = .slice a len cap) (hw : (d.weights Tryz.prog 35).all (· ≤ reachBytes) = true) : ∃ L, OpsAt W v L ∧ (∀ o ∈ L, opGiven o.a o.key o.val) ∧ L.length ≤ reachBytes := by
  obtain ⟨a0, n0, c0, rfl⟩ := hv
  obtain ⟨fuel, hf⟩ := h
  rcases Go.Deep.open_slice Tryz.underlying35 hf with ⟨hcs, _⟩ | ⟨a, len, cap, m, n, D, Pl, hcs, _, hl, _, hm, hxd, hx⟩
  · simp [Value.cells] at hcs
    obtain ⟨rfl, rfl, rfl⟩ := hcs
    exact ⟨[], ⟨none, 0, rfl, Nat.le_refl _, fun h => absurd h (Nat.lt_irrefl 0)⟩, (fun o ho => by cases ho), Nat.zero_le _⟩
  · simp [Value.cells] at hcs
    obtain ⟨rfl, rfl, rfl⟩ := hcs
    have hd : d = .slice ((List.range n0).map D) ((List.range (m - n0)).map fun j => D (n0 + j)) := congrArg Prod.fst hxd
    rw [hd, DataW.weights, Tryz.underlying35] at hw
    simp only [List.all_cons, List.all_append, Bool.and_eq_true, decide_eq_true_eq] at hw
    obtain ⟨hw0, hw1, _⟩ := hw
    have hb56 : Tryz.prog.bytesOf 28 = 56 := by kernel_rfl
    rw [hb56, List.length_map, List.length_range] at hw0
    have hn0 : n0 ≤ reachBytes := by omega
    have hwi : ∀ i, i < n0 → ((D i).weights Tryz.prog 28).all (· ≤ reachBytes) = true := fun i hi => by
      rw [List.all_eq_true] at hw1 ⊢
      exact fun z hz => hw1 z (weightsAll_memO (List.mem_map.2 ⟨i, List.mem_range.2 hi, rfl⟩) z hz)
    have hnm : n0 ≤ m := by rw [hm]; simp; omega
    have cel : ∀ i, i < n0 → ∃ k0 k1 k2 k3 k4 : Value, (∀ j v, [k0, k1, k2, k3, k4][j]? = some v → W.cell? ((a.add (i * 5)).add j) = some v) ∧ DataW.trod enc Tryz.prog W 0 (fun _ => true) true n 28 [k0, k1, k2, k3, k4] = some (D i, Pl i) := by
      intro i hi
      obtain ⟨cs', h1, h2⟩ := hx i (by omega)
      rw [cellsOp39] at h1
      obtain ⟨_, hlen, hcell⟩ := World.cells?_some h1
      match cs', hlen with
      | [k0, k1, k2, k3, k4], _ =>
        refine ⟨k0, k1, k2, k3, k4, fun j v hj => ?_, h2⟩
        have hj5 : j < 5 := by
          by_cases h4 : j < 5
          · exact h4
          · rw [List.getElem?_eq_none (by simp; omega)] at hj
            cases hj
        rw [hcell j hj5, hj]
    by_cases hz : n0 = 0
    · subst hz
      exact ⟨[], ⟨some a, c0, rfl, Nat.zero_le _, fun h => absurd h (Nat.lt_irrefl 0)⟩, (fun o ho => by cases ho), Nat.zero_le _⟩
    have hspot : a.spot = none := by
      obtain ⟨k0, k1, k2, k3, k4, hc, _⟩ := cel 0 (by omega)
      have := hc 0 k0 rfl
      rw [Nat.zero_mul] at this
      exact spot_freeO (a := a) (by simpa [Addr.add] using this)
    obtain ⟨b, o, s⟩ := a
    simp at hspot
    subst hspot
    have ha : ∀ i j, ((⟨b, o, none⟩ : Addr).add (i * 5)).add j = ⟨b, o + i * 5 + j, none⟩ := fun i j => by
      unfold Addr.add
      by_cases h1 : i * 5 = 0 <;> by_cases h2 : j = 0 <;> simp [h1, h2]
    have each : ∀ i, ∃ d : OpD, i < n0 → OpCell W b (o + i * 5) d ∧ opGiven d.a d.key d.val := by
      intro i
      by_cases hi : i < n0
      · obtain ⟨k0, k1, k2, k3, k4, hc, ht⟩ := cel i hi
        obtain ⟨k, ka, kb, X, V, hcs, hr, hdd⟩ := op_of_trod ht
        have hdd' : D i = opDat H k ka kb X V := hdd
        have hwd := hwi i hi
        rw [hdd'] at hwd
        have hsz := opDat_weights hwd
        injection hcs with e0 hcs
        injection hcs with e1 hcs
        injection hcs with e2 hcs
        injection hcs with e3 hcs
        injection hcs with e4 hcs
        subst e0 e1 e2 e3 e4
        have q0 := hc 0 _ rfl
        have q1 := hc 1 _ rfl
        have q2 := hc 2 _ rfl
        have q3 := hc 3 _ rfl
        have q4 := hc 4 _ rfl
        rw [ha] at q0 q1 q2 q3 q4
        exact ⟨⟨k, ka, kb, X, V⟩, fun _ => ⟨⟨q0, q1, q2, q3, q4⟩, hr, hsz⟩⟩
      · exact ⟨zeroOp, fun h => absurd h hi⟩
    have hlen : ((List.range n0).map fun i => Classical.choose (each i)).length = n0 := by simp
    refine ⟨(List.range n0).map fun i => Classical.choose (each i), ⟨some ⟨b, o, none⟩, c0, by rw [hlen], by rw [hlen]; exact hl, fun _ => ⟨b, o, rfl, fun i hi => ?_⟩⟩, fun x hxm => ?_, by rw [hlen]; exact hn0⟩
    · rw [hlen] at hi
      have e : ((List.range n0).map fun i => Classical.choose (each i)).getD i zeroOp = Classical.choose (each i) := by
        rw [List.getD, List.getElem?_map, List.getElem?_range hi]
        rfl
      rw [e]
      exact (Classical.choose_spec (each i) hi).1
    · obtain ⟨i, hi, rfl⟩ := List.mem_map.1 hxm
      exact (Classical.choose_spec (each i) (List.mem_range.1 hi)).2
end Go.Proofs.YtlmbcclggaflaaaGreatDoor
namespace Go.Proofs.YtlmbcclggaflaaaGreatDoor
open Go Go.RowKit

/-- A list n times, one behind the other. -/
def repV {α : Type} (n : Nat) (X : List α) : List α := (List.replicate n X).flatten
theorem repV_zero {α : Type} (X : List α) : repV 0 X = [] := rfl
theorem repV_succ {α : Type} (n : Nat) (X : List α) : repV (n + 1) X = X ++ repV n X := by
  unfold repV
  rw [List.replicate_succ, List.flatten_cons]
theorem repV_one {α : Type} (X : List α) : repV 1 X = X := by rw [repV_succ, repV_zero, List.append_nil]
theorem repV_len {α : Type} (X : List α) : ∀ n, (repV n X).length = n * X.length
  | 0 => by rw [repV_zero, Nat.zero_mul]; rfl
  | n + 1 => by rw [repV_succ, List.length_append, repV_len X n, Nat.add_mul, Nat.one_mul, Nat.add_comm]
theorem repV_add {α : Type} (X : List α) (b : Nat) : ∀ a, repV (a + b) X = repV a X ++ repV b X
  | 0 => by rw [Nat.zero_add]; rfl
  | a + 1 => by rw [show a + 1 + b = (a + b) + 1 by omega, repV_succ, repV_succ, repV_add X b a, List.append_assoc]
theorem repV_mem {α : Type} {X : List α} {x : α} : ∀ {n : Nat}, x ∈ repV n X → x ∈ X
  | 0, h => by rw [repV_zero] at h; cases h
  | n + 1, h => by
    rw [repV_succ] at h
    rcases List.mem_append.1 h with h | h
    · exact h
    · exact repV_mem h
theorem repV_flat {α β : Type} (f : α → List β) (X : List α) : ∀ n, (repV n X).flatMap f = repV n (X.flatMap f)
  | 0 => rfl
  | n + 1 => by rw [repV_succ, repV_succ, List.flatMap_append, repV_flat f X n]
theorem opC_one (L : List OpD) : ∀ v ∈ L.flatMap opC, v.oneCell' = true := by
  intro v hv
  obtain ⟨o, _, ho⟩ := List.mem_flatMap.1 hv
  unfold opC at ho
  simp only [List.mem_cons, List.not_mem_nil, or_false] at ho
  rcases ho with rfl | rfl | rfl | rfl | rfl <;> rfl
theorem splice_rep {α : Type} (X R : List α) (j k : Nat) : splice (repV j X ++ R) (j * X.length) (repV k X) = repV (j + k) X ++ R.drop (k * X.length) := by
  have e : (repV j X).length = j * X.length := repV_len X j
  unfold splice
  rw [← e, List.take_left, repV_len X k, List.drop_append, List.drop_eq_nil_of_le (by omega), List.nil_append, show (repV j X).length + k * X.length - (repV j X).length = k * X.length by omega, repV_add X k j, List.append_assoc]
theorem splice_first {α : Type} (X Z : List α) : splice Z 0 X = repV 1 X ++ Z.drop X.length := by
  unfold splice
  rw [List.take_zero, List.nil_append, repV_one, Nat.zero_add]

theorem run_copyN {P : Program} (w : World) (dT sT ty elem : TypeId) (z : Nat) (g o dLen dCap : Nat) (sp : Option Addr) (sLen sCap : Nat) (cur : List Value) (t : TypeId) (cs : List Value) (k : Nat)
    (hu : P.underlying dT = some (.slice elem)) (hs : (P.info? elem).map (·.size) = some z) (hg : w.heap[g]? = some (.cells cur.toArray t (0, 0))) (hk : Nat.min sLen dLen = k) (hl : cs.length = k * z)
    (hsrc : 0 < k → ∃ ad, sp = some ad ∧ ∀ j v, cs[j]? = some v → w.cell? (ad.add j) = some v) (hfit : o + cs.length ≤ cur.length) (h1 : ∀ v ∈ cs, v.oneCell' = true) :
    (Builtin.copy_ #[dT, sT] ty #[.slice (some ⟨g, o, none⟩) dLen dCap, .slice sp sLen sCap]).run P w = .ok (goInt k) (w.setRow g (splice cur o cs).toArray) := by
  have hst := run_storeCells_at P g o t cs 0 cur.toArray w hg (by simpa using hfit) h1
  have hsp : (splice cur o cs).toArray = (cur.toArray.toList.take (o + 0) ++ cs ++ cur.toArray.toList.drop (o + 0 + cs.length)).toArray := by
    unfold splice
    simp
  rw [hsp]
  cases hq : P.info? elem with
  | none => simp [hq] at hs
  | some i =>
    have hi : i.size = z := by simpa [hq] using hs
    by_cases h0 : 0 < k
    · obtain ⟨a, rfl, hc⟩ := hsrc h0
      have hld := run_loadCells_list (P := P) w a cs hc
      rw [hl] at hld
      simp [Builtin.copy_, run_underlying hu, Builtin.lenOf, Builtin.firstCells, sizeOf, typeInfo, hq, hi, hk, hld, hst]
    · obtain rfl : k = 0 := by omega
      have hcs : cs = [] := List.eq_nil_of_length_eq_zero (by omega)
      subst hcs
      cases sp with
      | none => simp [Builtin.copy_, run_underlying hu, Builtin.lenOf, Builtin.firstCells, sizeOf, typeInfo, hq, hk, hst]
      | some a => simp [Builtin.copy_, run_underlying hu, Builtin.lenOf, Builtin.firstCells, sizeOf, typeInfo, hq, hk, hst, loadCells, loadCellsFrom]
theorem wpList_copyN {P : Program} {w : World} {ops : Array Oper} {rest : List Oper} {o : Oper} {a : Act} {Q : Exit → Act → World → Prop} (hgd : o.guard = none) (d s : Operand) (dT sT : TypeId)
    (ho : o.op = .call { callee := .builtin .copy, args := #[d, s], argTypes := #[dT, sT] }) (elem : TypeId) (z : Nat) (hu : P.underlying dT = some (.slice elem)) (hsz : (P.info? elem).map (·.size) = some z)
    (g off dLen dCap : Nat) (sp : Option Addr) (sLen sCap : Nat) (hd : a.eval d = .slice (some ⟨g, off, none⟩) dLen dCap) (hs : a.eval s = .slice sp sLen sCap)
    (cur : List Value) (t : TypeId) (hg : w.heap[g]? = some (.cells cur.toArray t (0, 0))) (cs : List Value) (k : Nat) (hk : Nat.min sLen dLen = k) (hl : cs.length = k * z)
    (hsrc : 0 < k → ∃ ad, sp = some ad ∧ ∀ j v, cs[j]? = some v → w.cell? (ad.add j) = some v) (hfit : off + cs.length ≤ cur.length) (h1 : ∀ v ∈ cs, v.oneCell' = true) (B : Nat) (w0 : World) (hb : Below B w0 w) (hBg : B ≤ g)
    (h : ∀ w', Hid (w'.heap[g]? = some (.cells (splice cur off cs).toArray t (0, 0))) → Below B w0 w' → wpList P ops Q rest (a.put o.dst (goInt k)) w') :
    wpList P ops Q (o :: rest) a w := by
  refine wpList_plain hgd fun K hK => ?_
  have hrun := run_copyN (P := P) w dT sT o.type elem z g off dLen dCap sp sLen sCap cur t cs k hu hsz hg hk hl hsrc hfit h1
  unfold Oper.wp
  simp [execOp, ho, resolve, invoke, builtin, hd, hs, hrun, Result.andThen]
  exact hK _ _ (h _ (show _ = _ from setRow_heap w g _ _ t _ hg) (below_setRow hb hBg _))
theorem step_copyN {P : Program} {ops : Array Oper} {o : Oper} {a : Act} {w : World} {K : Act → World → Prop} {Q : Exit → Act → World → Prop} {E : Prop} (hgd : o.guard = none) (d s : Operand) (dT sT : TypeId)
    (ho : o.op = .call { callee := .builtin .copy, args := #[d, s], argTypes := #[dT, sT] }) (elem : TypeId) (z : Nat) (hu : P.underlying dT = some (.slice elem)) (hsz : (P.info? elem).map (·.size) = some z)
    (g off dLen dCap : Nat) (sp : Option Addr) (sLen sCap : Nat) (hd : a.eval d = .slice (some ⟨g, off, none⟩) dLen dCap) (hs : a.eval s = .slice sp sLen sCap)
    (cur : List Value) (t : TypeId) (hg : w.heap[g]? = some (.cells cur.toArray t (0, 0))) (cs : List Value) (k : Nat) (hk : Nat.min sLen dLen = k) (hl : cs.length = k * z)
    (hsrc : 0 < k → ∃ ad, sp = some ad ∧ ∀ j v, cs[j]? = some v → w.cell? (ad.add j) = some v) (hfit : off + cs.length ≤ cur.length) (h1 : ∀ v ∈ cs, v.oneCell' = true) (B : Nat) (w0 : World) (hb : Below B w0 w) (hBg : B ≤ g)
    (h : ∀ w', Hid (w'.heap[g]? = some (.cells (splice cur off cs).toArray t (0, 0))) → Below B w0 w' → K (a.put o.dst (goInt k)) w') :
    if Region.wanted o (yielded ops a.tmps) = true then Oper.wp P o a w K Q else E := by
  have hw : Region.wanted o (yielded ops a.tmps) = true := by simp [Region.wanted, hgd]
  rw [if_pos hw]
  have hrun := run_copyN (P := P) w dT sT o.type elem z g off dLen dCap sp sLen sCap cur t cs k hu hsz hg hk hl hsrc hfit h1
  unfold Oper.wp
  simp [execOp, ho, resolve, invoke, builtin, hd, hs, hrun, Result.andThen]
  exact h _ (show _ = _ from setRow_heap w g _ _ t _ hg) (below_setRow hb hBg _)
end Go.Proofs.YtlmbcclggaflaaaGreatDoor
namespace Go.Proofs.YtlmbcclggaflaaaGreatDoor
open Go Go.RowKit

theorem run_uptoO (p : Option Addr) (n c m : Nat) (h : m ≤ c) (wx : World) :
    (Instr.slice 35 (.slice p n c) none (some (.int .i64 (m : Int))) none).run Tryz.prog wx = .ok (.slice p m c) wx := by
  have hs : ∀ w, (Go.sizeOf 28).run Tryz.prog w = .ok 5 w := fun w => by kernel_rfl
  have ht' : Tryz.prog.underlying 35 = some (.slice (Tryz.prog.elem 35)) := by simp [Program.elem, Tryz.underlying35]
  have he : Tryz.prog.elem 35 = 28 := by simp [Program.elem, Tryz.underlying35]
  rw [run_slice_h wx 35 p n c ht' .i64 (m : Int) (by omega) (by omega), he, hs]
  show Result.ok (sliced p 0 (m : Int).toNat c 5) wx = _
  unfold sliced
  rw [Nat.zero_mul, addr_zero]
  rfl
theorem OpsAt.upto {w : World} {p : Option Addr} {c : Nat} {L : List OpD} (h : OpsAt w (.slice p L.length c) L) (m : Nat) (hm : m ≤ L.length) : OpsAt w (.slice p m c) (L.take m) := by
  obtain ⟨p', c', hv, hc, hp⟩ := h
  injection hv with e1 e2 e3
  subst e1 e3
  have hl : (L.take m).length = m := by rw [List.length_take]; omega
  refine ⟨p, c, by rw [hl], by rw [hl]; omega, fun h0 => ?_⟩
  rw [hl] at h0
  obtain ⟨b, o, h1, h2⟩ := hp (by omega)
  refine ⟨b, o, h1, fun i hi => ?_⟩
  rw [hl] at hi
  have e : (L.take m).getD i zeroOp = L.getD i zeroOp := by rw [List.getD, List.getElem?_take, if_pos hi, List.getD]
  rw [e]
  exact h2 i (by omega)
end Go.Proofs.YtlmbcclggaflaaaGreatDoor
namespace Go.Proofs.YtlmbcclggaflaaaGreatDoor
open Go Go.RowKit

theorem infoOp5 : (Tryz.prog.info? 28).map (fun i => (i.zero, i.size, i.bytes)) = some (some (.agg #[.int .i64 0, .int .i64 0, .int .i64 0, .string ⟨#[]⟩, .string ⟨#[]⟩]), 5, 56) := by kernel_rfl
theorem run_from5 (g i T : Nat) (h : i < T) (wx : World) :
    (Instr.slice 35 (.slice (some ⟨g, 0, none⟩) T T) (some (.int .i64 (i : Int))) none none).run Tryz.prog wx = .ok (.slice (some ⟨g, i * 5, none⟩) (T - i) (T - i)) wx := by
  have hs : ∀ w, (Go.sizeOf 28).run Tryz.prog w = .ok 5 w := fun w => by kernel_rfl
  have ht' : Tryz.prog.underlying 35 = some (.slice (Tryz.prog.elem 35)) := by simp [Program.elem, Tryz.underlying35]
  have he : Tryz.prog.elem 35 = 28 := by simp [Program.elem, Tryz.underlying35]
  rw [run_slice_l wx 35 (some ⟨g, 0, none⟩) T T ht' .i64 (i : Int) (by omega) (by omega), he, hs]
  show Result.ok (sliced _ (i : Int).toNat T T 5) wx = _
  unfold sliced
  rw [Int.toNat_natCast, if_neg (by omega)]
  simp [Addr.add_lit]
/-- The operations of Repeat. -/
abbrev repO (n : Nat) (L : List OpD) : List OpD := repV n L
theorem row_cell {w : World} {g : Nat} {cur : List Value} {t : TypeId} (hg : w.heap[g]? = some (.cells cur.toArray t (0, 0))) (j : Nat) : w.cell? ⟨g, j, none⟩ = cur[j]? := by
  rw [Lib.cell_of_heap hg]
  simp
theorem row_kept {w w' : World} {B g : Nat} {o : Obj} (hg : w.heap[g]? = some o) (hb : Below B w w') (h : g < B) : w'.heap[g]? = some o := by
  rw [hb.block g h]
  exact hg
theorem ops_src {w : World} {L : List OpD} {b o : Nat} (h : ∀ i, i < L.length → OpCell w b (o + i * 5) (L.getD i zeroOp)) (j : Nat) (v : Value) (hj : (L.flatMap opC)[j]? = some v) : w.cell? ((⟨b, o, none⟩ : Addr).add j) = some v := by
  have hlt : j < L.length * 5 := by
    rw [← opsC_len]
    exact (List.getElem?_eq_some_iff.mp hj).1
  have e : j / 5 * 5 + j % 5 = j := by omega
  have h1 := opsC_at L (j / 5) (j % 5) (by omega) (by omega)
  rw [e, hj] at h1
  obtain ⟨z0, z1, z2, z3, z4⟩ := h (j / 5) (by omega)
  rw [Addr.add_lit]
  have e2 : o + j = o + j / 5 * 5 + j % 5 := by omega
  rw [e2]
  rcases (show j % 5 = 0 ∨ j % 5 = 1 ∨ j % 5 = 2 ∨ j % 5 = 3 ∨ j % 5 = 4 by omega) with hr | hr | hr | hr | hr
  all_goals
    rw [hr] at h1 ⊢
    rw [h1]
    first | exact z0 | exact z1 | exact z2 | exact z3 | exact z4
set_option maxRecDepth 100000 in
set_option maxHeartbeats 8000000 in
theorem repeat_any (v : Value) (L : List OpD) (n : Nat) (hn : 1 ≤ n) (hT : n * L.length ≤ 1000000) (hn2 : n ≤ 1000000) (hl2 : L.length ≤ 1000000) (w : World) (hv : OpsAt w v L) :
    Calls Tryz.prog 40 #[v, .int .i64 (n : Int)] w fun e w' => ∃ v', e = .returned v' ∧ OpsNew w.heap.size w' v' (repO n L) ∧ Below w.heap.size w w' := by
  obtain ⟨i0, hi0, hz0, hz1, hz2⟩ := info_parts infoOp5
  have hcl := opsC_len L
  obtain ⟨p, c, rfl, hc, hcell⟩ := hv
  obtain ⟨X, hX⟩ : ∃ X, L.flatMap opC = X := ⟨_, rfl⟩
  have hXs : 0 < L.length → ∃ ad, p = some ad ∧ ∀ j v, X[j]? = some v → w.cell? (ad.add j) = some v := fun h0 => by
    obtain ⟨b, o, rfl, hi⟩ := hcell h0
    exact ⟨_, rfl, fun j v hj => ops_src hi j v (by rw [hX]; exact hj)⟩
  have hX1 : ∀ v ∈ X, v.oneCell' = true := by rw [← hX]; exact opC_one L
  have hrl : (repO n L).length = n * L.length := repV_len L n
  have hrf : (repO n L).flatMap opC = repV n X := by rw [← hX]; exact repV_flat opC L n
  rw [hX] at hcl
  obtain ⟨M, hM⟩ : ∃ M, L.length = M := ⟨_, rfl⟩
  rw [hM] at hcl hT hc hXs hrl hl2
  rw [hM]
  obtain ⟨T, hTT⟩ : ∃ T, n * M = T := ⟨_, rfl⟩
  rw [hTT] at hT hrl
  have HRL := Lib.hid hrl
  have HRF := Lib.hid hrf
  have HCL := Lib.hid hcl
  have HXS := Lib.hid hXs
  have HX1 := Lib.hid hX1
  have HTT := Lib.hid hTT
  have HN := Lib.hid hn
  have d0 : decide ((n : Int) < 0) = false := decide_eq_false (by omega)
  have hb1 : M * n = T := by rw [Nat.mul_comm]; exact hTT
  have hmul := fun w => Tryz.bits_Mul M n (by omega) (by omega) w
  rw [hb1, Nat.div_eq_of_lt (by omega), Nat.mod_eq_of_lt (by omega)] at hmul
  have HMUL : Hid (∀ w, Calls Tryz.prog 48 #[.int .u64 (M : Int), .int .u64 (n : Int)] w fun e w' => e = .returned (.tuple #[.int .u64 0, .int .u64 (T : Int)]) ∧ w' = w) := hmul
  have s1 : IntKind.u64.wrap (M : Int) = (M : Int) := IntWalk.u64_in _ (by omega)
  have s2 : IntKind.u64.wrap (n : Int) = (n : Int) := IntWalk.u64_in _ (by omega)
  have s3 : IntKind.i64.wrap (T : Int) = (T : Int) := IntWalk.i64_in _ (by omega)
  have d1 : decide (9223372036854775807 < (T : Int)) = false := decide_eq_false (by omega)
  have hmk : ∀ w : World, ∃ Z : List Value, Z.length = T * 5 ∧ (Instr.makeSlice 35 (.int .i64 (T : Int)) (.int .i64 (T : Int))).run Tryz.prog w = .ok (.slice (some ⟨w.heap.size, 0, none⟩) T T) (w.alloc (.cells Z.toArray 28)) := fun w => by
    have h := run_make (P := Tryz.prog) w 35 28 i0 _ Tryz.underlying35 hi0 hz0 .i64 .i64 (T : Int) (T : Int) (by omega) (by omega) (by rw [hz2]; omega) (by omega)
    rw [hz1, Int.toNat_natCast] at h
    refine ⟨(madeCells (Value.agg #[.int .i64 0, .int .i64 0, .int .i64 0, .string ⟨#[]⟩, .string ⟨#[]⟩]).cells (T * 5)).toList, by rw [Array.length_toList, size_madeCells], ?_⟩
    rw [Array.toArray_toList]
    exact h
  obtain ⟨Z, hZ, hmk1⟩ := hmk w
  have HZ := Lib.hid hZ
  have HG : Hid ((w.alloc (.cells Z.toArray 28)).heap[w.heap.size]? = some (.cells Z.toArray 28 (0, 0))) := heap_alloc_new w _
  have a1 := Lib.hid ((Below.refl w.heap.size w).alloc (Nat.le_refl _) (.cells Z.toArray 28))
  have hTn : M ≤ T := by rw [← hTT]; exact Nat.le_mul_of_pos_left M (by omega)
  have hmin : Nat.min M T = M := Nat.min_eq_left hTn
  clear hn hT hcell hX hrl hrf hcl hXs hX1 hb1 hmul hmk hZ hM hl2 hn2
  go_enter Tryz.func40, Tryz.ntmps40
  go_wp2_with fail
  refine (HMUL.out _).mono ?_
  rintro e w1 ⟨rfl, rfl⟩
  go_wp2_with (refine wpList_copyN rfl (.tmp 31) (.tmp 32) 35 35 rfl 28 5 Tryz.underlying35 (by rw [hi0]; simp [hz1]) w1.heap.size 0 T T p M c rfl rfl Z 28 HG.out X M hmin (by rw [HCL.out]) (fun h0 => (HXS.out h0).imp fun ad h => ⟨h.1, fun j v hj => cell_kept (h.2 j v hj) a1.out⟩) (by rw [HCL.out, HZ.out]; omega) HX1.out w1.heap.size w1 a1.out (Nat.le_refl _) ?_)
  intro w2 HG2 hB2
  have HR2 : Hid (∃ R, R.length = T * 5 - 1 * (M * 5) ∧ w2.heap[w1.heap.size]? = some (.cells (repV 1 X ++ R).toArray 28 (0, 0))) := by
    refine ⟨Z.drop X.length, by rw [List.length_drop, HZ.out, HCL.out, Nat.one_mul], ?_⟩
    rw [← splice_first]
    exact HG2.out
  have HB2 := Lib.hid hB2
  clear HG2 hB2 a1 HG HZ HXS hmin
  clear hmk1
  go_wp2_with fail
  go_loopw [8] (fun s8 wr => ∃ j i : Nat, 1 ≤ j ∧ j ≤ n ∧ s8 = .int .i64 i ∧ Hid (j * M = i) ∧ Hid (∃ R, R.length = T * 5 - j * (M * 5) ∧ wr.heap[w1.heap.size]? = some (.cells (repV j X ++ R).toArray 28 (0, 0))) ∧ Hid (Below w1.heap.size w1 wr)) (fun s8 _ => T - (intOf s8).toNat)
  case atStart => exact ⟨1, M, Nat.le_refl _, HN.out, rfl, Nat.one_mul M, HR2.out, HB2⟩
  case round =>
    clear HB2 HR2
    obtain ⟨j, i, hj1, hjn, rfl, hji, hR, c2⟩ := hrel
    by_cases hlt : i < T
    · have hjn2 : j < n := by
        rcases Nat.lt_or_eq_of_le hjn with h | h
        · exact h
        · subst h
          have h1 := hji.out
          have h2 := HTT.out
          omega
      have hM0 : 0 < M := by
        rcases Nat.eq_zero_or_pos M with h | h
        · have h1 := HTT.out
          rw [h, Nat.mul_zero] at h1
          omega
        · exact h
      obtain ⟨q, hq1, hqj, hqn, hqm⟩ : ∃ q, 1 ≤ q ∧ q ≤ j ∧ j + q ≤ n ∧ Nat.min i (T - i) = q * M := by
        have h1 := hji.out
        have h2 := HTT.out
        have h3 : T - i = (n - j) * M := by rw [Nat.sub_mul, h1, h2]
        rcases Nat.le_total j (n - j) with h | h
        · refine ⟨j, hj1, Nat.le_refl _, by omega, ?_⟩
          rw [h3, h1]
          exact Nat.min_eq_left (by rw [← h1]; exact Nat.mul_le_mul_right M h)
        · refine ⟨n - j, by omega, h, by omega, ?_⟩
          rw [h3]
          exact Nat.min_eq_right (by rw [← h1]; exact Nat.mul_le_mul_right M h)
      obtain ⟨k, hk⟩ : ∃ k, q * M = k := ⟨_, rfl⟩
      rw [hk] at hqm
      have hk1 : 1 ≤ k := by rw [← hk]; exact Nat.mul_pos hq1 hM0
      have hki : k ≤ T - i := by rw [← hqm]; exact Nat.min_le_right _ _
      have hji2 : (j + q) * M = i + k := by rw [Nat.add_mul, hji.out, hk]
      have hcut1 := run_from5 w1.heap.size i T hlt
      have hcut2 := run_uptoO (some ⟨w1.heap.size, 0, none⟩) T T i (Nat.le_of_lt hlt)
      have hsum : IntKind.i64.wrap ((i : Int) + (k : Int)) = (i : Int) + (k : Int) := IntWalk.i64_in _ (by have := of_decide_eq_false d1; omega)
      have d2 : decide ((i : Int) < (T : Int)) = true := decide_eq_true (by omega)
      obtain ⟨R, hRl, hRg⟩ := hR.out
      have HRG := Lib.hid hRg
      have hXl := HCL.out
      have hcsl : (repV q X).length = k * 5 := by rw [repV_len, hXl, ← hk, Nat.mul_assoc]
      have hcur : (repV j X ++ R).length = T * 5 := by
        have h1 : j * (M * 5) ≤ T * 5 := by rw [← Nat.mul_assoc, hji.out]; omega
        rw [List.length_append, repV_len, hXl, hRl]
        omega
      have hoff : i * 5 = j * X.length := by rw [hXl, ← Nat.mul_assoc, hji.out]
      have hpre : ∀ (y : Nat) (u : Value), (repV q X)[y]? = some u → (wr.drew).cell? ((⟨w1.heap.size, 0, none⟩ : Addr).add y) = some u := fun y u hy => by
        rw [Addr.add_lit, Nat.zero_add, row_cell (w := wr.drew) hRg, show j = q + (j - q) by omega, repV_add X (j - q) q, List.append_assoc, List.getElem?_append_left (List.getElem?_eq_some_iff.mp hy).1]
        exact hy
      have HPRE := Lib.hid hpre
      have HQ1 : ∀ v ∈ repV q X, v.oneCell' = true := fun v hv => HX1.out v (repV_mem hv)
      have HQ2 := Lib.hid HQ1
      have HCS := Lib.hid hcsl
      have HCU := Lib.hid hcur
      have HOF := Lib.hid hoff
      have HJ2 := Lib.hid hji2
      have HHQ := Lib.hid (And.intro hqn hRl)
      have HKI := Lib.hid hki
      clear hRg hRl hR hpre HQ1 hcsl hcur hoff hji hji2 hXl hqn hqj hk hM0 hjn2 hki
      go_wp2_with fail
      go_region_law (refine step_copyN rfl (.tmp 41) (.tmp 44) 35 35 rfl 28 5 Tryz.underlying35 (by rw [hi0]; simp [hz1]) w1.heap.size (i * 5) (T - i) (T - i) (some ⟨w1.heap.size, 0, none⟩) i T rfl rfl (repV j X ++ R) 28 HRG.out (repV q X) k hqm HCS.out (fun _ => ⟨_, rfl, HPRE.out⟩) (by rw [HCS.out, HCU.out]; have := HKI.out; omega) HQ2.out w1.heap.size w1 c2.out.drew (Nat.le_refl _) ?_; intro w5 HG5 hB5)
      all_goals
        have HR5 : Hid (∃ R, R.length = T * 5 - (j + q) * (M * 5) ∧ w5.heap[w1.heap.size]? = some (.cells (repV (j + q) X ++ R).toArray 28 (0, 0))) := by
          refine ⟨R.drop (q * X.length), by have h1 := HHQ.out.2; rw [List.length_drop, HCL.out, h1, Nat.add_mul]; omega, ?_⟩
          rw [← splice_rep, ← HOF.out]
          exact HG5.out
        have HB5 := Lib.hid hB5
        clear HG5 hB5 HRG HPRE HQ2 c2 HCS HCU HOF
        go_wp2_with fail
        go_roundw
        case rel => repeat apply Exists.intro
                    refine ⟨⟨j + q, i + k, by omega, HHQ.out.1, by go_num, HJ2, HR5, HB5⟩, rfl⟩
        case measure =>
          show T - (intOf (Value.int .i64 ((i : Int) + (k : Int)))).toNat < T - (intOf (Value.int .i64 (i : Int))).toNat
          have := HKI.out
          simp [intOf]
          omega
    · have HF : Hid (w1.heap.size = w1.heap.size ∧ OpsNew w1.heap.size wr (.slice (some ⟨w1.heap.size, 0, none⟩) T T) (repO n L)) := by
        refine ⟨rfl, ?_⟩
        obtain ⟨R, hRl, hRg⟩ := hR.out
        have h1 := hji.out
        have h2 := HTT.out
        have hXl := HCL.out
        have hiT : T ≤ i := by omega
        have hle : i ≤ T := by rw [← h1, ← h2]; exact Nat.mul_le_mul_right M hjn
        have hcur : (repV j X ++ R).length = T * 5 := by
          have h3 : j * (M * 5) ≤ T * 5 := by rw [← Nat.mul_assoc, h1]; omega
          rw [List.length_append, repV_len, hXl, hRl]
          omega
        have hR0 : R = [] := by
          refine List.eq_nil_of_length_eq_zero ?_
          rw [hRl, ← Nat.mul_assoc, h1]
          omega
        subst hR0
        rw [List.append_nil] at hRg hcur
        have hE : repV j X = repV n X := by
          rcases Nat.eq_zero_or_pos M with h | h
          · have hX0 : X = [] := List.eq_nil_of_length_eq_zero (by rw [hXl, h])
            have e1 : ∀ m, repV m X = [] := fun m => List.eq_nil_of_length_eq_zero (by rw [repV_len, hX0]; simp)
            rw [e1, e1]
          · have : j = n := by
              have h4 : j * M = n * M := by omega
              exact Nat.eq_of_mul_eq_mul_right h h4
            rw [this]
        rw [hE] at hRg hcur
        refine ⟨?_, Or.inr ⟨w1.heap.size, T, (repV n X).toArray, ?_, Nat.le_refl _, hRg, ?_, ?_, ?_, ?_⟩⟩
        · rw [HRF.out, hcur, HRL.out]
        · rw [HRL.out]
        · rw [HRL.out]
          exact Nat.le_refl _
        · have h5 := of_decide_eq_false d1
          unfold maxLen
          omega
        · simpa using hcur
        · rw [HRF.out, HRL.out, List.take_of_length_le (by simpa using Nat.le_of_eq hcur)]
      have d2 : decide ((i : Int) < (T : Int)) = false := decide_eq_false (by omega)
      have d3 : decide (i < T) = false := decide_eq_false hlt
      clear hR hji
      go_wp2_with fail
      go_ret
      exact ⟨_, rfl, HF.out.2, c2.out⟩
end Go.Proofs.YtlmbcclggaflaaaGreatDoor
namespace Go.Proofs.YtlmbcclggaflaaaGreatDoor
open Go Go.RowKit

theorem ownsO_built (w : World) (B : Nat) (hB : B ≤ w.heap.size) (e : TypeId) : (w.alloc (.cells #[] e)).ownsRow B e 5 (.slice (some ⟨w.heap.size, 0, none⟩) 0 0) 0 [] :=
  ⟨rfl, .inr ⟨w.heap.size, 0, #[], rfl, hB, heap_alloc_new w _, Nat.le_refl _, by decide, rfl, rfl⟩⟩
set_option maxRecDepth 100000 in
set_option maxHeartbeats 1000000 in
theorem cloneO_any (v : Value) (L : List OpD) (w : World) (hv : OpsAt w v L) (hl : L.length ≤ 1000000) :
    Calls Tryz.prog 41 #[v] w fun e w' => ∃ v', e = .returned v' ∧ OpsNew w.heap.size w' v' L ∧ Below w.heap.size w w' := by
  obtain ⟨i0, hi0, hz0, hz1, hz2⟩ := info_parts infoOp5
  have HL := Lib.hid hl
  have q22 : ∀ (w : World) (a : Option Addr) (n c n' c' : Nat), (binOp .eql 35 (.slice a n c) (.slice none n' c')).run Tryz.prog w = .ok (.bool a.isNone) w := fun w a n c n' c' => Lib.run_eql_slice_nil w _ _ a n c n' c' Tryz.underlying35
  obtain ⟨p, c, rfl, hc, hp⟩ := hv
  clear hl
  cases p with
  | none =>
    have h0 : L.length = 0 := by
      rcases Nat.eq_zero_or_pos L.length with h | h
      · exact h
      · obtain ⟨b, o, he, _⟩ := hp h; cases he
    have hL : L = [] := List.eq_nil_of_length_eq_zero h0
    subst hL
    clear hp hc
    go_enter Tryz.func41, Tryz.ntmps41
    go_wp2_with fail
    go_ret
    exact ⟨_, rfl, OpsNew.nil _ _, Below.refl _ _⟩
  | some a =>
    have HS : Hid (∀ j u, (L.flatMap opC)[j]? = some u → (w.alloc (.cells #[] 28)).cell? (a.add j) = some u) := by
      intro j u hj
      have h0 : 0 < L.length := by
        have h1 := (List.getElem?_eq_some_iff.mp hj).1
        rw [opsC_len] at h1
        omega
      obtain ⟨b, o, he, hi⟩ := hp h0
      injection he with he
      subst he
      have h2 := ops_src hi j u hj
      rw [Addr.add_lit] at h2 ⊢
      exact cell_kept h2 ((Below.refl _ _).alloc (Nat.le_refl _) _)
    clear hp hc
    go_enter Tryz.func41, Tryz.ntmps41
    go_wp2_with (at_builtin; refine wpList_append_own _ rfl (.tmp 5) (.tmp 6) 35 rfl w.heap.size 28 i0 (.agg #[.int .i64 0, .int .i64 0, .int .i64 0, .string ⟨#[]⟩, .string ⟨#[]⟩]) 5 56 Tryz.underlying35 hi0 hz0 hz1 hz2 rfl (by decide) _ 0 [] rfl (ownsO_built w _ (Nat.le_refl _) _) a L.length c (L.flatMap opC) rfl (opsC_len L) HS.out (opC_one L) (by have := HL.out; unfold maxLen; omega) (by have := HL.out; omega) (by simp) ?_)
    intro v' w4 hown hgrow _
    have HN : Hid (OpsNew w.heap.size w4 v' L) := by
      show World.ownsRow _ _ _ _ _ _ _
      exact hown
    have c5 : Below w.heap.size w w4 := ((Below.refl _ _).alloc (Nat.le_refl _) _).grown hgrow (by simp) (fun k hk => by cases hk; exact Nat.le_refl _)
    clear hown hgrow
    go_wp2_with fail
    go_ret
    exact ⟨_, rfl, HN.out, c5⟩
end Go.Proofs.YtlmbcclggaflaaaGreatDoor
namespace Go.Proofs.YtlmbcclggaflaaaGreatDoor
open Go Go.RowKit

set_option maxRecDepth 100000 in
set_option maxHeartbeats 4000000 in
theorem rprintAll_any (v : Value) (L : List OpD) (hf : ∀ o ∈ L, opFit o) (w : World) (hv : OpsAt w v L) :
    Calls Tryz.prog 42 #[v] w fun e w' => e = .returned (.tuple #[.string (paT L), .int .i64 (paE L)]) ∧ Below w.heap.size w w' := by
  obtain ⟨p, c, rfl, hc, hcell⟩ := hv
  have HF := Lib.hid hf
  have HC := Lib.hid hcell
  by_cases hm : 2000 < L.length
  · have d0 : decide (2000 < (L.length : Int)) = true := by rw [decide_eq_true_iff]; omega
    have HP := Lib.hid (pa_many hm)
    clear hf hc hcell hm HF HC
    go_enter Tryz.func42, Tryz.ntmps42
    go_wp2_with fail
    go_ret2
    exact ⟨by rw [HP.out.1, HP.out.2]; rfl, Below.refl _ _⟩
  · have d0 : decide (2000 < (L.length : Int)) = false := by rw [decide_eq_false_iff_not]; omega
    have HM := Lib.hid hm
    clear hf hc hcell hm
    go_enter Tryz.func42, Tryz.ntmps42
    go_wp2_with fail
    go_loopw [4] (fun s4 wr => ∃ i : Nat, i ≤ L.length ∧ s4 = .int .i64 i ∧ Hid (∀ j : Nat, j < i → opGood (L.getD j zeroOp)) ∧ Hid (Below w.heap.size w wr)) (fun s4 _ => L.length - (intOf s4).toNat)
    case atStart => exact ⟨0, Nat.zero_le _, rfl, fun j hj => absurd hj (Nat.not_lt_zero _), Below.refl _ _⟩
    case round =>
      obtain ⟨i, hi, rfl, hA, hB⟩ := hrel
      by_cases hlt : i < L.length
      · have HLT := Lib.hid hlt
        obtain ⟨bb, o, rfl, hcell⟩ := HC.out (by omega)
        obtain ⟨z0, z1, z2, z3, z4⟩ := hcell i hlt
        have hfit := HF.out _ (getD_mem hlt)
        obtain ⟨q, hq⟩ : ∃ q, L.getD i zeroOp = q := ⟨_, rfl⟩
        rw [hq] at z0 z1 z2 z3 z4 hfit
        have HQ := Lib.hid hq
        clear hq hcell
        obtain ⟨qk, qa, qb, qx, qv⟩ := q
        replace z0 := cell_kept z0 hB.out
        replace z1 := cell_kept z1 hB.out
        replace z2 := cell_kept z2 hB.out
        replace z3 := cell_kept z3 hB.out
        replace z4 := cell_kept z4 hB.out
        have HFT := Lib.hid hfit
        have hsum : IntKind.i64.wrap ((i : Int) + 1) = (i : Int) + 1 := IntWalk.i64_in _ (by have := HM.out; omega)
        clear hfit
        obtain ⟨E, hE⟩ : ∃ E, prE ⟨qk, qa, qb, qx, qv⟩ = E := ⟨_, rfl⟩
        have HEE := Lib.hid hE
        clear hE
        go_wp2_with fail
        refine (rcheck39_any qk qa qb qx qv HFT.out.2.1 HFT.out.2.2 _).mono ?_
        rw [HEE.out]
        rintro e w2 ⟨rfl, b2⟩
        have c2 := Lib.hid (hB.out.trans (b2.mono hB.out.size))
        clear b2 z0 z1 z2 z3 z4
        by_cases hg : opGood ⟨qk, qa, qb, qx, qv⟩
        · obtain rfl : E = 0 := HEE.out.symm.trans (pr_good hg).2
          have HW : Hid (∀ j : Nat, j < i + 1 → opGood (L.getD j zeroOp)) := by
            intro j hj
            by_cases e : j = i
            · subst e
              rw [HQ.out]
              exact hg
            · exact hA.out j (by omega)
          clear hg
          go_wp2_with fail
          go_roundw
          case rel => exact ⟨i + 1, by omega, by go_num, HW, c2⟩
          case measure => simp [intOf]; omega
        · obtain rfl : E = 2 := HEE.out.symm.trans (pr_bad hg).2
          have HP : Hid (paE L = 2 ∧ paT L = eB) := pa_arg HM.out (getD_mem HLT.out) (by rw [HQ.out]; exact hg)
          clear hg
          go_wp2_with fail
          go_ret2
          exact ⟨by rw [HP.out.1, HP.out.2]; rfl, c2.out⟩
      · obtain rfl : i = L.length := by omega
        have HG : Hid (∀ o ∈ L, opGood o) := by
          intro o ho
          obtain ⟨j, hj, rfl⟩ := List.getElem_of_mem ho
          have := hA.out j hj
          rw [List.getD, List.getElem?_eq_getElem hj] at this
          exact this
        clear hA hlt hi
        go_wp2_with fail
        go_loopw [5, 6] (fun s5 s6 wx => ∃ (i : Nat) (S : ByteArray), i ≤ L.length ∧ s6 = .int .i64 i ∧ s5 = .string S ∧ Hid (S = pack (paL (L.take i))) ∧ Hid ((paL (L.take i)).length ≤ 65536) ∧ Hid (Below w.heap.size w wx)) (fun _ s6 _ => L.length - (intOf s6).toNat)
        case atStart => exact ⟨0, ⟨#[]⟩, Nat.zero_le _, rfl, rfl, by show _ = _; rw [List.take_zero]; rfl, by show (paL (L.take 0)).length ≤ 65536; rw [List.take_zero]; decide, hB⟩
        case round =>
          rename_i wy
          obtain ⟨i, S, hi, rfl, rfl, hS, hZ, hB2⟩ := hrel
          clear hB
          by_cases hlt : i < L.length
          · have HLT := Lib.hid hlt
            obtain ⟨bb, o, rfl, hcell⟩ := HC.out (by omega)
            obtain ⟨z0, z1, z2, z3, z4⟩ := hcell i hlt
            have hfit := HF.out _ (getD_mem hlt)
            have hgd := HG.out _ (getD_mem hlt)
            have hpt := paL_take L i hlt
            obtain ⟨q, hq⟩ : ∃ q, L.getD i zeroOp = q := ⟨_, rfl⟩
            rw [hq] at z0 z1 z2 z3 z4 hfit hgd hpt
            clear hq hcell
            obtain ⟨qk, qa, qb, qx, qv⟩ := q
            replace z0 := cell_kept z0 hB2.out
            replace z1 := cell_kept z1 hB2.out
            replace z2 := cell_kept z2 hB2.out
            replace z3 := cell_kept z3 hB2.out
            replace z4 := cell_kept z4 hB2.out
            obtain ⟨e1, e2⟩ := pr_good hgd
            have hol := opT_len hgd
            obtain ⟨T, hT⟩ : ∃ T, pack (opT ⟨qk, qa, qb, qx, qv⟩) = T := ⟨_, rfl⟩
            rw [hT] at e1
            have hTs : T.size ≤ 1300 := by rw [← hT, pack_size]; exact hol
            have hSs : S.size ≤ 65536 := by rw [hS.out, pack_size]; exact hZ.out
            have q0 : ¬ 9223372036854775807 < S.size + T.size := by omega
            have q1 : ¬ 9223372036854775807 < S.size + T.size + 1 := by omega
            obtain ⟨P, hP⟩ : ∃ P, (S ++ T) ++ ⟨#[10]⟩ = P := ⟨_, rfl⟩
            have hPl : P = pack (paL (L.take (i + 1))) := by
              rw [hpt, ← hP, ← hT, hS.out]
              apply ByteArray.ext
              apply Array.ext'
              simp [pack]
            have hPs : P.size = (paL (L.take (i + 1))).length := by rw [hPl, pack_size]
            have HPP := Lib.hid hP
            have HPL := Lib.hid hPl
            have HPS := Lib.hid hPs
            have HPR := Lib.hid (And.intro hfit (And.intro e1 e2))
            have hsum : IntKind.i64.wrap ((i : Int) + 1) = (i : Int) + 1 := IntWalk.i64_in _ (by have := HM.out; omega)
            clear hfit hgd hpt e1 e2 hol hT hP hPl hTs hPs hSs
            go_wp2_with fail
            refine (rprint39_any qk qa qb qx qv HPR.out.1.2.1 HPR.out.1.2.2 _).mono ?_
            rw [HPR.out.2.1, HPR.out.2.2]
            rintro e w4 ⟨rfl, b4⟩
            have HB4 := Lib.hid (hB2.out.trans (b4.mono hB2.out.size))
            clear b4 z0 z1 z2 z3 z4 hB2
            by_cases hbig : 65536 < P.size
            · have d1 : decide (65536 < (P.size : Int)) = true := by rw [decide_eq_true_iff]; omega
              have HP := Lib.hid (pa_long HM.out HG.out (Nat.lt_of_lt_of_le (by rw [← HPS.out]; exact hbig) (paL_le L (i + 1))))
              clear hbig
              go_upto_region 14 with fail
              rw [HPP.out]
              go_wp2_with fail
              go_ret2
              exact ⟨by rw [HP.out.1, HP.out.2]; rfl, HB4.out⟩
            · have d1 : decide (65536 < (P.size : Int)) = false := by rw [decide_eq_false_iff_not]; omega
              have HZ : Hid ((paL (L.take (i + 1))).length ≤ 65536) := by
                show _ ≤ _
                rw [← HPS.out]
                omega
              clear hbig
              go_upto_region 14 with fail
              rw [HPP.out]
              go_wp2_with fail
              go_roundw
              case rel => exact ⟨i + 1, P, by omega, by go_num, rfl, HPL, HZ, HB4⟩
              case measure => simp [intOf]; omega
          · obtain rfl : i = L.length := by omega
            have hS2 := hS.out
            have HZ := hZ.out
            rw [List.take_length] at hS2 HZ
            have HP := Lib.hid (pa_good HG.out (by have := HM.out; omega) HZ)
            have HSS := Lib.hid hS2
            clear HZ hS2
            go_wp2_with fail
            go_ret2
            exact ⟨by rw [HP.out.1, HP.out.2, ← HSS.out]; rfl, hB2.out⟩
end Go.Proofs.YtlmbcclggaflaaaGreatDoor
namespace Go.Proofs.YtlmbcclggaflaaaGreatDoor
open Go Go.RowKit

/-- The bytes of the strings of operations. -/
def lenS : List OpD → Nat
  | [] => 0
  | o :: r => (o.key.size + o.val.size) + lenS r
theorem lenS_append : ∀ (L M : List OpD), lenS (L ++ M) = lenS L + lenS M
  | [], M => (Nat.zero_add _).symm
  | o :: r, M => by
    rw [List.cons_append, lenS, lenS, lenS_append r M]
    omega
theorem lenS_snoc (L : List OpD) (i : Nat) (h : i < L.length) : lenS (L.take (i + 1)) = lenS (L.take i) + ((L.getD i zeroOp).key.size + (L.getD i zeroOp).val.size) := by
  rw [List.take_succ_eq_append_getElem h, lenS_append, List.getD, List.getElem?_eq_getElem h]
  simp [lenS]
theorem lenS_mem : ∀ {L : List OpD} {o : OpD}, o ∈ L → o.key.size + o.val.size ≤ lenS L
  | [], _, h => by cases h
  | x :: r, o, h => by
    rw [lenS]
    rcases List.mem_cons.1 h with rfl | h
    · omega
    · have := lenS_mem h
      omega
theorem lenS_bound (L : List OpD) (hG : ∀ o ∈ L, opGiven o.a o.key o.val) : ∀ i, i ≤ L.length → lenS (L.take i) ≤ i * 281474976702464
  | 0, _ => by rw [List.take_zero]; exact Nat.le_refl _
  | i + 1, h => by
    rw [lenS_snoc L i (by omega)]
    have h1 := lenS_bound L hG i (by omega)
    obtain ⟨_, h2, h3⟩ := hG _ (getD_mem (show i < L.length by omega))
    have e1 : reachBytes = 140737488351232 := rfl
    rw [e1] at h2 h3
    omega
set_option maxRecDepth 100000 in
set_option maxHeartbeats 8000000 in
theorem walkOpLists (v : Value) (L : List OpD) (hGL : (∀ o ∈ L, opGiven o.a o.key o.val) ∧ L.length ≤ reachBytes) (t : Int) (ht0 : (Lit.int .u8 t).wf = true) (m : Int) (w : World) (hv : OpsAt w v L) (ht : Tab w) (he : Errs w) (hm : w.cell? ⟨0, 0, none⟩ = some (.int .i64 m)) :
    Calls Tryz.prog 7 #[v, .int .u8 t] w fun e w' => e = .returned (.bool true) ∧ Below w.heap.size w w' := by
  have HE : Hid (Env m w) := ⟨ht, he, hm⟩
  obtain ⟨hG, hLr⟩ := hGL
  have r1 : IntKind.u8.min = 0 := rfl
  have r2 : IntKind.u8.max = 255 := rfl
  have ht1 : 0 ≤ t ∧ t ≤ 255 := by simpa [Lit.wf, r1, r2] using ht0
  clear r1 r2 ht0 ht he hm
  obtain ⟨T, rfl⟩ : ∃ T : Nat, t = (T : Int) := ⟨t.toNat, by omega⟩
  obtain ⟨R, hR⟩ : ∃ R, T % 30 = R := ⟨_, rfl⟩
  have hR30 : R < 30 := by omega
  have hmod : ((T : Int) % 30) = (R : Int) := by rw [← hR]; simp
  have hsumR : IntKind.i64.wrap (1 + (R : Int)) = 1 + (R : Int) := IntWalk.i64_in _ (by omega)
  have HR30 := Lib.hid hR30
  have HV := Lib.hid hv
  obtain ⟨p, c, rfl, hc, hcell⟩ := hv
  obtain ⟨N, hN⟩ : ∃ N, min L.length 101 = N := ⟨_, rfl⟩
  have hNi : min (L.length : Int) 101 = (N : Int) := by omega
  have hNL : N ≤ L.length := by omega
  have hcut := run_uptoO p L.length c N (by omega)
  have HLN := Lib.hid (And.intro hN (And.intro hNL (show N ≤ 101 by omega)))
  have HC := Lib.hid hcell
  have HG := Lib.hid hG
  have HB := Lib.hid (lenS_bound L hG)
  have hLr2 : L.length ≤ 140737488351232 := hLr
  have HLR := Lib.hid hLr2
  clear hcell hG hR hN hNL hc hR30 hLr hLr2
  go_enter Tryz.func7, Tryz.ntmps7
  go_wp2_with fail
  go_loopw [5, 19] (fun s5 s19 wr => ∃ i S : Nat, i ≤ N ∧ s19 = .int .i64 i ∧ s5 = .int .i64 S ∧ Hid (lenS (L.take i) = S) ∧ Hid (Below w.heap.size w wr)) (fun _ s19 _ => N - (intOf s19).toNat)
  case atStart => exact ⟨0, 0, Nat.zero_le _, rfl, rfl, by rw [List.take_zero]; rfl, Lib.hid (Below.refl _ _)⟩
  case round =>
    obtain ⟨i, S, hi, rfl, rfl, hS, c1⟩ := hrel
    by_cases hlt : i < N
    · have hiL : i < L.length := by have := HLN.out.2.1; omega
      obtain ⟨bb, o, rfl, hci⟩ := HC.out (by omega)
      obtain ⟨z0, z1, z2, z3, z4⟩ := (hci i hiL).below c1.out
      have hsn := lenS_snoc L i hiL
      have hbd := HB.out (i + 1) hiL
      have hsz : lenS (L.take i) = S := hS.out
      rw [hsn, hsz] at hbd
      rw [hsz] at hsn
      obtain ⟨q, hq⟩ : ∃ q, L.getD i zeroOp = q := ⟨_, rfl⟩
      rw [hq] at z0 z1 z2 z3 z4 hsn hbd
      clear hq hci
      obtain ⟨qk, qa, qb, qx, qv⟩ := q
      replace hsn : lenS (L.take (i + 1)) = S + (qx.size + qv.size) := hsn
      replace hbd : S + (qx.size + qv.size) ≤ (i + 1) * 281474976702464 := hbd
      have h101 := HLN.out.2.2
      have hs1 : IntKind.i64.wrap ((qx.size : Int) + (qv.size : Int)) = (qx.size : Int) + (qv.size : Int) := IntWalk.i64_in _ (by omega)
      have hs2 : IntKind.i64.wrap ((S : Int) + ((qx.size : Int) + (qv.size : Int))) = (S : Int) + ((qx.size : Int) + (qv.size : Int)) := IntWalk.i64_in _ (by omega)
      have hsum : IntKind.i64.wrap ((i : Int) + 1) = (i : Int) + 1 := IntWalk.i64_in _ (by omega)
      have HSN := Lib.hid hsn
      have a3 := (Below.refl wr.heap.size wr).alloc (Nat.le_refl _) (.cells #[.int .i64 qk, .int .i64 qa, .int .i64 qb, .string qx, .string qv] 28)
      have c3 := Lib.hid (c1.out.trans (a3.mono c1.out.size))
      have HO3 := Lib.hid (OpBox.new wr qk qa qb qx qv 28)
      clear hsn hbd hsz hS a3 c1 h101
      go_upto_region 5 with fail
      generalize (wr.alloc (.cells #[.int .i64 qk, .int .i64 qa, .int .i64 qb, .string qx, .string qv] 28)) = w3 at *
      obtain ⟨B3, hB3⟩ : ∃ B3, wr.heap.size = B3 := ⟨_, rfl⟩
      rw [hB3] at HO3
      rw [hB3]
      obtain ⟨⟨k0, k1, k2, k3, k4⟩, kf⟩ := HO3.out
      clear hB3 kf z0 z1 z2 z3 z4
      go_wp2_with fail
      go_roundw
      case rel => exact ⟨i + 1, S + (qx.size + qv.size), by omega, by go_num, by go_num, HSN, c3⟩
      case measure => simp [intOf]; omega
    · obtain rfl : i = N := by omega
      clear hlt hi hNi hcut
      have c2 := Lib.hid c1.out
      clear c1
      have c1 := Lib.hid c2.out
      clear c2
      by_cases hA : 100 < L.length
      · have d1 : decide (100 < (L.length : Int)) = true := decide_eq_true (by omega)
        have d2 : decide (100 < L.length) = true := decide_eq_true hA
        clear hA
        go_wp2_with fail
        refine (works39_any m _ (HE.out.below c1.out)).mono ?_
        rintro e w2 ⟨rfl, b1⟩
        have c2 := Lib.hid (c1.out.trans (b1.mono c1.out.size))
        clear c1
        have c1 := Lib.hid c2.out
        clear c2
        clear b1
        go_wp2_with fail
        go_ret
        exact ⟨rfl, c1.out⟩
      · have d1 : decide (100 < (L.length : Int)) = false := decide_eq_false (by omega)
        have d2 : decide (100 < L.length) = false := decide_eq_false hA
        by_cases hD : 4000 < S
        · have d3 : decide (4000 < (S : Int)) = true := decide_eq_true (by omega)
          have d4 : decide (4000 < S) = true := decide_eq_true hD
          clear hA hD
          go_wp2_with fail
          refine (works39_any m _ (HE.out.below c1.out)).mono ?_
          rintro e w2 ⟨rfl, b1⟩
          have c2 := Lib.hid (c1.out.trans (b1.mono c1.out.size))
          clear c1
          have c1 := Lib.hid c2.out
          clear c2
          clear b1
          go_wp2_with fail
          go_ret
          exact ⟨rfl, c1.out⟩
        · have d3 : decide (4000 < (S : Int)) = false := decide_eq_false (by omega)
          have d4 : decide (4000 < S) = false := decide_eq_false hD
          have hlen : L.length ≤ 100 := by omega
          have hSS : lenS L = S := by
            have h1 := hS.out
            rw [List.take_of_length_le (by have := HLN.out.1; omega)] at h1
            exact h1
          obtain ⟨M, hM⟩ : ∃ M, repO (1 + R) L = M := ⟨_, rfl⟩
          have hfit : ∀ o ∈ M, opFit o := fun o ho => by
            rw [← hM] at ho
            have h1 := repV_mem ho
            have h2 := lenS_mem h1
            obtain ⟨h3, _, _⟩ := HG.out o h1
            exact ⟨h3, by show o.key.size ≤ _; omega, by show o.val.size ≤ _; omega⟩
          have hMl : M.length ≤ 3000 := by
            rw [← hM, repV_len]
            have := HR30.out
            exact Nat.le_trans (Nat.mul_le_mul (show 1 + R ≤ 30 by omega) hlen) (by decide)
          have hrep := fun (wx : World) (hx : OpsAt wx (.slice p L.length c) L) => repeat_any (.slice p L.length c) L (1 + R) (by omega) (by
            have := HR30.out
            exact Nat.le_trans (Nat.mul_le_mul (show 1 + R ≤ 30 by omega) hlen) (by decide)) (by have := HR30.out; omega) (by omega) wx hx
          rw [show ((1 + R : Nat) : Int) = 1 + (R : Int) by omega, hM] at hrep
          have HREP := Lib.hid hrep
          have HFIT := Lib.hid hfit
          have HML := Lib.hid hMl
          obtain ⟨P, hP⟩ : ∃ P, paT M = P := ⟨_, rfl⟩
          obtain ⟨E, hE⟩ : ∃ E, paE M = E := ⟨_, rfl⟩
          have HPE := Lib.hid (And.intro hP hE)
          have he1 : (P.toList == P.toList) = true := beq_self_eq_true _
          have he2 : (E == E) = true := beq_self_eq_true _
          clear hA hD hlen hSS hM hfit hMl hrep hP hE HC HG HB HLN HLR hS HR30
          go_wp2_with fail
          refine (HREP.out _ (HV.out.below c1.out)).mono ?_
          rintro e w2 ⟨v2, rfl, h2, b1⟩
          obtain ⟨p2, c2, rfl⟩ := ownsRow_slice h2
          have HA2 := Lib.hid (OpsNew.at h2)
          have c2 := Lib.hid (c1.out.trans (b1.mono c1.out.size))
          clear c1
          have c1 := Lib.hid c2.out
          clear c2
          clear b1 h2 HREP HV
          go_wp2_with fail
          refine (cloneO_any _ M _ HA2.out (by have := HML.out; omega)).mono ?_
          rintro e w3 ⟨v3, rfl, h3, b1⟩
          obtain ⟨p3, c3, rfl⟩ := ownsRow_slice h3
          have HA3 := Lib.hid (OpsNew.at h3)
          have c2 := Lib.hid (c1.out.trans (b1.mono c1.out.size))
          clear c1
          have c1 := Lib.hid c2.out
          clear c2
          have hh := Lib.hid (HA2.out.below b1)
          clear HA2
          have HA2 := Lib.hid hh.out
          clear hh
          clear b1 h3
          go_wp2_with fail
          refine (printAll_any _ M HFIT.out (by have := HML.out; omega) m _ (HE.out.below c1.out) HA3.out).mono ?_
          rw [HPE.out.1, HPE.out.2]
          rintro e w4 ⟨rfl, b1⟩
          have c2 := Lib.hid (c1.out.trans (b1.mono c1.out.size))
          clear c1
          have c1 := Lib.hid c2.out
          clear c2
          have hh := Lib.hid (HA2.out.below b1)
          clear HA2
          have HA2 := Lib.hid hh.out
          clear hh
          have hh := Lib.hid (HA3.out.below b1)
          clear HA3
          have HA3 := Lib.hid hh.out
          clear hh
          clear b1
          go_wp2_with fail
          refine (rprintAll_any _ M HFIT.out _ HA2.out).mono ?_
          rw [HPE.out.1, HPE.out.2]
          rintro e w5 ⟨rfl, b1⟩
          have c2 := Lib.hid (c1.out.trans (b1.mono c1.out.size))
          clear c1
          have c1 := Lib.hid c2.out
          clear c2
          have hh := Lib.hid (HA2.out.below b1)
          clear HA2
          have HA2 := Lib.hid hh.out
          clear hh
          have hh := Lib.hid (HA3.out.below b1)
          clear HA3
          have HA3 := Lib.hid hh.out
          clear hh
          clear b1
          go_wp2_with fail
          refine (equalOps_any _ _ M M _ HA3.out HA2.out (by have := HML.out; omega)).mono ?_
          rw [decide_eq_true rfl]
          rintro e w6 ⟨rfl, b1⟩
          have c2 := Lib.hid (c1.out.trans (b1.mono c1.out.size))
          clear c1
          have c1 := Lib.hid c2.out
          clear c2
          clear b1 HA2 HA3
          go_wp2_with fail
          refine (works39_any m _ (HE.out.below c1.out)).mono ?_
          rintro e w7 ⟨rfl, b1⟩
          have c2 := Lib.hid (c1.out.trans (b1.mono c1.out.size))
          clear c1
          have c1 := Lib.hid c2.out
          clear c2
          clear b1
          go_wp2_with fail
          go_ret
          exact ⟨rfl, c1.out⟩
end Go.Proofs.YtlmbcclggaflaaaGreatDoor
namespace Go.Proofs.YtlmbcclggaflaaaGreatDoor.lawOpLists
open Go Go.RowKit Go.ChangeShapes Go.WideShapes Go.ChangeAt
open Go.ChangeMaps (open_string shut_string)

set_option maxRecDepth 100000 in
theorem contract (H : Type) (enc : TypeId × Value → H) (W : World) (base : Nat) (args : Array Value) (ds gs : List (DataW H)) (before : List MemPlace)
    (hval : ∀ (j : Nat) t v, Tryz.f7.params[j]? = some t → args[j]? = some v → Value.okWide Tryz.prog W .any base t v)
    (hW : DataW.Whole enc Tryz.prog Tryz.f7.params.toList Rows.opListsSpec.vars false W args.toList ds gs before) (hL : laidMetH Tryz.prog Rows.opListsRow.laid W) (hR : (DataW.weightsEach Tryz.prog (Tryz.f7.params.toList ++ (OpenSpec.ofChange Rows.opListsSpec).bare.plain.varTypes Tryz.prog) (ds ++ gs)).all (· ≤ reachBytes) = true) (hS : W.ShapedOpen Tryz.prog) :
    Calls Tryz.prog 7 args W fun e W' => ∃ v, e = .returned v ∧ Rows.opListsSpec.post enc Tryz.prog Tryz.f7 false true false false W args v W' := by
  have hW' := hW
  obtain ⟨p, q, hA0, hV, rfl, hfz, hnd⟩ := hW
  have hA : DataW.TrodAll enc Tryz.prog W 0 (fun _ => true) true Tryz.f7.params.toList args.toList ds p := hA0
  rw [Tryz.params7] at hA hval
  obtain ⟨v0, vs0, d0, ds0, p0, q0, hargs, rfl, rfl, h0, r0⟩ := trodAll_cons hA
  obtain ⟨v1, vs1, d1, ds1, p1, q1, rfl, rfl, rfl, h1, r1⟩ := trodAll_cons r0
  obtain ⟨rfl, rfl, rfl⟩ := trodAll_nil r1
  obtain rfl : args = #[v0, v1] := by cases args; simp_all
  obtain ⟨rfl, rfl⟩ := trodVars_none hV
  obtain ⟨mL, hm⟩ := maxLen_of hS
  obtain ⟨l0, B0, G0⟩ := open_ops h0 (okWide_slice Tryz.underlying35 (hval 0 35 v0 rfl rfl)) (weights_at hR (j := 0) rfl rfl)
  obtain ⟨a1, rfl, rfl, rfl, ws1⟩ := open_int Tryz.underlying5 (hval 1 5 v1 rfl rfl) h1
  clear hA0
  simp only [List.append_nil] at hW'
  have hlt := fun x hx => hW'.lt x hx
  refine (walkOpLists v0 l0 G0 a1 ws1 mL W B0 (tab_of_laid hL) (errs_of_laid hL) hm).mono fun e W' ⟨he, hb⟩ => ?_
  subst he
  refine ⟨_, rfl, _, _, _, [], (p0 ++ ([] ++ [])), [], hW', ?_, ?_, rfl, hb.frame _, fun h => by cases h⟩
  · exact trodAll_cons_mk (shut_bool Tryz.underlying4 _) trodAll_mk0
  · exact trodAll_cons_mk (Below.trod (by kernel_rfl) (by kernel_rfl) (of_decide_eq_true (by kernel_rfl)) h0 hb (fun x hx => by simpa using hlt x (by simp [hx]))) (trodAll_cons_mk (shut_int Tryz.underlying5 ws1) trodAll_mk0)

theorem reads (os : Os) {H : Type} (enc : TypeId × Value → H) : ∃ places, DataW.whole enc Tryz.prog ((laidWorld os).forCall (fun _ _ => 0) ⟨#[], #[.slice none 0 0, .int .u8 0], []⟩).memory Tryz.f7.params.toList Rows.opListsSpec.vars false (#[.slice none 0 0, .int .u8 0] : Array Value).toList 8 = some ([.nil, .lit (.int .u8 0)], [], places) :=
  ⟨[], by kernel_rfl⟩

set_option maxRecDepth 100000 in
theorem lifted (os : Os) (started : os.Started) (H : Type) (enc : TypeId × Value → H) (F : Stop.Interp) :
    ReturnsInHanded {} Tryz.checked os 7 .any ((OpenSpec.ofChange Rows.opListsSpec).preRow enc Tryz.prog Tryz.f7 Rows.opListsRow.domain false Rows.opListsRow.laid) (((OpenSpec.ofChange Rows.opListsSpec).at F).post enc Tryz.prog Tryz.f7 false true false false) := by
  obtain ⟨places, hx⟩ := reads os enc
  refine returnsInHanded_of_row (C := Tryz.checked) (s := OpenSpec.ofChange Rows.opListsSpec) own started (by kernel_rfl) Tryz.func7
    (witness_row_atRef (enc := enc) (C := Tryz.checked) false (laidWorld os) #[.slice none 0 0, .int .u8 0] rfl (by kernel_rfl) (by kernel_rfl) (by kernel_rfl)
      (OpenSpec.preRow_of_cond 8 hx (by kernel_rfl) (fun k hk => by cases hk) (by kernel_rfl) (laid_met os _))) ?_
  intro W base args ds gs before hval hW _ _ hR hL hS _
  exact contract H enc W base args ds gs before hval hW hL hR hS

theorem said : Rows.OpListsSaid :=
  OpenClaim.holds_of_cond 7 Tryz.f7 rfl rfl rfl rfl rfl rfl rfl ⟨rfl, rfl, rfl, rfl, rfl⟩ rfl rfl rfl rfl rfl (by kernel_rfl) Tryz.func7 (by kernel_rfl)
    (of_decide_eq_true (by kernel_rfl)) (by unfold Func.isWrapper; first | (rw [if_pos (by decide +kernel)]; kernel_rfl) | (rw [if_neg (by decide +kernel)]; exact ⟨rfl, rfl⟩))
    (fun os started H enc _ F => by rw [OpenClaim.pre_eq_preRow]; exact lifted os started H enc F)

theorem plain (f : FuncId) (fn : Func) (hf : Tryz.pinned.checked.prog.funcNamed Tryz.f7.name = some f) (hfn : Tryz.pinned.checked.prog.funcs[f]? = some fn) :
    true = Tryz.pinned.checked.prog.looks [] ∧ ∀ (j : Nat) t, fn.params[j]? = some t → Tryz.pinned.checked.prog.wantsStandIn t = false := by
  obtain rfl : f = 7 := Option.some.inj ((show Tryz.prog.funcNamed Tryz.f7.name = some 7 by kernel_rfl).symm.trans hf) |>.symm
  obtain rfl : fn = Tryz.f7 := (Option.some.inj (Tryz.func7.symm.trans hfn)).symm
  refine ⟨by kernel_rfl, fun j t ht => ?_⟩
  have key : Tryz.f7.params.all (fun t => !Tryz.prog.wantsStandIn t) = true := by kernel_rfl
  have h2 := Array.all_eq_true_iff_forall_mem.1 key t (Array.mem_of_getElem? ht)
  rw [Bool.not_eq_true'] at h2
  exact h2

theorem proved : Rows.OpListsCardSaid :=
  Claim7.holds_tied_plain_at .later [] _ _ _ _ said (fun _ h => by cases h) (by kernel_rfl) (fun _ h => by cases h) opLists_row_tie rfl ⟨rfl, rfl⟩ (by kernel_rfl) rfl plain (by kernel_rfl)
end Go.Proofs.YtlmbcclggaflaaaGreatDoor.lawOpLists
