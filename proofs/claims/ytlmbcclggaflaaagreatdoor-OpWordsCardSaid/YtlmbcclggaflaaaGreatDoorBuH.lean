/-
  b[:m] of a slice of bytes.
  An argument of type []byte that is read as data reads as bytes in memory.
  Arguments that are operations: what they are as values.
  Plain Lean: the operation that is made of numbers, and that it is valid.
  The operation that is made of numbers: the walk.
  The operation that is made of numbers: gets and deletes.
  The operation that is made of numbers: crashes.
  The operation that is made of numbers: what Made computes; numbers as an argument.
  The operation that is made of numbers: its sizes.
  Plain Lean: operations with a flaw are not valid.
  Conditions: as each theorem says (bytes: at most 100,000; the library's tables and variables lie in the world).
-/
import Derived.Test.YtlmbcclggaflaaaGreatDoorProg
import Derived.Test.YtlmbcclggaflaaaGreatDoorBuA
import Derived.WalkLawsBesides
import Derived.WalkSpells
import Derived.ChangeSlices
import Derived.Carry
import Derived.Deep.DeepHandedRow
import Derived.Test.YtlmbcclggaflaaaGreatDoorBuF
import Derived.OpenShut
import Derived.ChangeSame
import Derived.WideShapes
import Derived.ChangeAt
import Derived.Deep.Slices
import Derived.SizedLaws
import Derived.Test.YtlmbcclggaflaaaGreatDoorBuB
import Derived.Test.YtlmbcclggaflaaaGreatDoorBuD
import Derived.Lib.Repeat
set_option linter.unusedVariables false
namespace Go.Proofs.YtlmbcclggaflaaaGreatDoor
open Go Go.RowKit

theorem addr_zero (p : Option Addr) (c : Nat) : (if c = 0 then p else p.map (·.add 0)) = p := by
  split
  · rfl
  · cases p with
    | none => rfl
    | some a =>
      obtain ⟨b, o, sp⟩ := a
      show some (Addr.add _ 0) = _
      unfold Addr.add
      split <;> simp_all
/-- b[:m]. -/
theorem run_upto (p : Option Addr) (n c m : Nat) (h : m ≤ c) (wx : World) :
    (Instr.slice 23 (.slice p n c) none (some (.int .i64 (m : Int))) none).run Tryz.prog wx = .ok (.slice p m c) wx := by
  have hs : ∀ w, (Go.sizeOf 5).run Tryz.prog w = .ok 1 w := fun w => by kernel_rfl
  have ht' : Tryz.prog.underlying 23 = some (.slice (Tryz.prog.elem 23)) := by simp [Program.elem, Tryz.underlying23]
  have he : Tryz.prog.elem 23 = 5 := by simp [Program.elem, Tryz.underlying23]
  rw [run_slice_h wx 23 p n c ht' .i64 (m : Int) (by omega) (by omega), he, hs]
  show Result.ok (sliced p 0 (m : Int).toNat c 1) wx = _
  unfold sliced
  rw [Nat.zero_mul, addr_zero]
  rfl
/-- b[:min(len(b), k)]. -/
theorem cut_bytes {w : World} {v : Value} {l : List UInt8} (hv : BytesAt w v l) (k : Nat) :
    ∃ (p : Option Addr) (n c m : Nat) (l2 : List UInt8), v = .slice p n c ∧ n = l.length ∧ min (n : Int) (k : Int) = (m : Int) ∧ m ≤ k ∧ m ≤ n ∧ l2 = l.take m ∧ l2.length = m ∧ BytesAt w (.slice p m c) l2 ∧
      (∀ wx, (Instr.slice 23 (.slice p n c) none (some (.int .i64 (m : Int))) none).run Tryz.prog wx = .ok (.slice p m c) wx) := by
  obtain ⟨p, c, rfl, hc, hp⟩ := hv
  have hm : min l.length k ≤ l.length := Nat.min_le_left _ _
  have hl : (l.take (min l.length k)).length = min l.length k := by rw [List.length_take]; omega
  refine ⟨p, l.length, c, min l.length k, l.take (min l.length k), rfl, rfl, by omega, Nat.min_le_right _ _, hm, rfl, hl, ⟨p, c, by rw [hl], by rw [hl]; omega, fun h0 => ?_⟩, run_upto p _ c _ (by omega)⟩
  rw [hl] at h0
  obtain ⟨b, o, hbo, hcell⟩ := hp (by omega)
  refine ⟨b, o, hbo, fun i hi => ?_⟩
  rw [hl] at hi
  rw [hcell i (by omega)]
  have : (l.take (min l.length k)).getD i 0 = l.getD i 0 := by rw [List.getD, List.getElem?_take, if_pos hi, List.getD]
  rw [this]

theorem BytesAt.upto {w : World} {p : Option Addr} {n c m : Nat} {l : List UInt8} (h : BytesAt w (.slice p n c) l) (hm : m ≤ n) : BytesAt w (.slice p m c) (l.take m) := by
  obtain ⟨p', c', he, hc, hp⟩ := h
  obtain ⟨rfl, rfl, rfl⟩ : p = p' ∧ n = l.length ∧ c = c' := by cases he; exact ⟨rfl, rfl, rfl⟩
  have hl : (l.take m).length = m := by rw [List.length_take]; omega
  refine ⟨p, c, by rw [hl], by rw [hl]; omega, fun h0 => ?_⟩
  rw [hl] at h0
  obtain ⟨b, o, hbo, hcell⟩ := hp (by omega)
  refine ⟨b, o, hbo, fun i hi => ?_⟩
  rw [hl] at hi
  rw [hcell i (by omega)]
  have : (l.take m).getD i 0 = l.getD i 0 := by rw [List.getD, List.getElem?_take, if_pos hi, List.getD]
  rw [this]
end Go.Proofs.YtlmbcclggaflaaaGreatDoor
namespace Go.Proofs.YtlmbcclggaflaaaGreatDoor
open Go Go.RowKit Go.ChangeShapes Go.WideShapes Go.ChangeAt

theorem cellsU8 : Tryz.prog.cellsOf 5 = 1 := by kernel_rfl
theorem open_bytes {H : Type} {enc : TypeId × Value → H} {W : World} {v : Value} {d : DataW H} {ps : List MemPlace} (h : DataW.Trod enc Tryz.prog W 0 (fun _ => true) true 23 v d ps)
    (hv : ∃ a len cap, v = .slice a len cap) : ∃ l, BytesAt W v l := by
  obtain ⟨a0, n0, c0, rfl⟩ := hv
  obtain ⟨fuel, hf⟩ := h
  rcases open_ints Tryz.underlying23 Tryz.underlying5 cellsU8 hf with ⟨hcs, hx⟩ | ⟨a, len, cap, zs, hcs, _, hl, hm, hz, hx, hcell, hwz⟩
  · simp [Value.cells] at hcs
    obtain ⟨rfl, rfl, rfl⟩ := hcs
    exact ⟨[], BytesAt.nil _ _ _⟩
  · simp [Value.cells] at hcs
    obtain ⟨rfl, rfl, rfl⟩ := hcs
    have hzl : n0 ≤ zs.length := by rw [hz]; simp; omega
    refine ⟨(zs.take n0).map fun z => UInt8.ofNat z.toNat, some a, c0, ?_, ?_, ?_⟩
    · rw [List.length_map, List.length_take, Nat.min_eq_left hzl]
    · rw [List.length_map, List.length_take, Nat.min_eq_left hzl]; exact hl
    · intro h0
      rw [List.length_map, List.length_take, Nat.min_eq_left hzl] at h0 ⊢
      have hspot : a.spot = none := by
        have h1 := hcell 0 (by omega)
        unfold World.cell? at h1
        split at h1
        · split at h1
          · cases h1
          · rename_i hs
            simpa [Addr.add] using hs
        · cases h1
      obtain ⟨b, o, sp⟩ := a
      simp at hspot
      subst hspot
      refine ⟨b, o, rfl, fun i hi => ?_⟩
      have h1 := hcell i (by omega)
      have ha : (⟨b, o, none⟩ : Addr).add i = ⟨b, o + i, none⟩ := by unfold Addr.add; split <;> simp_all
      rw [ha] at h1
      rw [h1]
      have hzi : zs[i]? = some (zs.getD i 0) := by rw [List.getD, List.getElem?_eq_getElem (by omega)]; rfl
      have hw := hwz (zs.getD i 0) (List.mem_of_getElem? hzi)
      have hr : 0 ≤ zs.getD i 0 ∧ zs.getD i 0 ≤ 255 := by
        have e1 : IntKind.u8.min = 0 := rfl
        have e2 : IntKind.u8.max = 255 := rfl
        simpa [Lit.wf, e1, e2] using hw
      have hg : ((zs.take n0).map fun z => UInt8.ofNat z.toNat).getD i 0 = UInt8.ofNat (zs.getD i 0).toNat := by
        rw [List.getD, List.getElem?_map, List.getElem?_take, if_pos hi, hzi]
        rfl
      rw [hg, UInt8.toNat_ofNat']
      congr 2
      omega
end Go.Proofs.YtlmbcclggaflaaaGreatDoor
namespace Go.Proofs.YtlmbcclggaflaaaGreatDoor
open Go Go.RowKit Go.ChangeShapes Go.WideShapes Go.ChangeAt

theorem cellsInt39 : Tryz.prog.cellsOf 3 = 1 := by kernel_rfl
theorem cellsStr39 : Tryz.prog.cellsOf 9 = 1 := by kernel_rfl
theorem cellsOp39 : Tryz.prog.cellsOf 28 = 5 := by kernel_rfl
/-- The datum of an operation. -/
def opDat (H : Type) (k a b : Int) (x v : ByteArray) : DataW H := .agg [.lit (.int .i64 k), .lit (.int .i64 a), .lit (.int .i64 b), .lit (.string x.data.toList), .lit (.string v.data.toList)]
set_option maxRecDepth 100000 in
theorem op_of_trod {H : Type} {enc : TypeId × Value → H} {W : World} {base : Nat} {sp : Nat → Bool} {held : Bool} {fuel : Nat} {cs : List Value} {x : DataW H × List MemPlace} (h : DataW.trod enc Tryz.prog W base sp held fuel 28 cs = some x) :
    ∃ k a b X V, cs = [.int .i64 k, .int .i64 a, .int .i64 b, .string X, .string V] ∧ (-9223372036854775808 ≤ a ∧ a ≤ 9223372036854775807) ∧ x.1 = opDat H k a b X V := by
  obtain ⟨xs, n, _, hx1, hl, hlen, hfld⟩ := DataW.trod_struct Tryz.underlying28 h
  have hc5 : ∃ c0 c1 c2 c3 c4, cs = [c0, c1, c2, c3, c4] := by
    have hs := hl.trans cellsOp39
    match cs, hs with
    | [c0, c1, c2, c3, c4], _ => exact ⟨c0, c1, c2, c3, c4, rfl⟩
  obtain ⟨c0, c1, c2, c3, c4, rfl⟩ := hc5
  have hx5 : ∃ y0 y1 y2 y3 y4, xs = [y0, y1, y2, y3, y4] := by
    match xs, hlen with
    | [y0, y1, y2, y3, y4], _ => exact ⟨y0, y1, y2, y3, y4, rfl⟩
  obtain ⟨y0, y1, y2, y3, y4, rfl⟩ := hx5
  have one : ∀ (f : Field) (T : TypeId) (c : Value) (y : DataW H × List MemPlace), DataW.trod enc Tryz.prog W base sp held n f.type ((([c0, c1, c2, c3, c4] : List Value).drop f.offset).take (Tryz.prog.cellsOf f.type)) = some y →
      f.type = T → Tryz.prog.cellsOf T = 1 → (([c0, c1, c2, c3, c4] : List Value).drop f.offset).take 1 = [c] → DataW.trod enc Tryz.prog W base sp held n T [c] = some y := by
    intro f T c y h1 ht hc hd
    rw [ht, hc, hd] at h1
    exact h1
  have e0 := one _ 3 c0 y0 (hfld 0 _ rfl) rfl cellsInt39 rfl
  have e1 := one _ 3 c1 y1 (hfld 1 _ rfl) rfl cellsInt39 rfl
  have e2 := one _ 3 c2 y2 (hfld 2 _ rfl) rfl cellsInt39 rfl
  have e3 := one _ 9 c3 y3 (hfld 3 _ rfl) rfl cellsStr39 rfl
  have e4 := one _ 9 c4 y4 (hfld 4 _ rfl) rfl cellsStr39 rfl
  obtain ⟨z0, h0, g0, _⟩ := DataW.trod_int Tryz.underlying3 e0
  obtain ⟨z1, h1, g1, w1⟩ := DataW.trod_int Tryz.underlying3 e1
  obtain ⟨z2, h2, g2, _⟩ := DataW.trod_int Tryz.underlying3 e2
  obtain ⟨z3, h3, g3, _⟩ := DataW.trod_string Tryz.underlying9 e3
  obtain ⟨z4, h4, g4, _⟩ := DataW.trod_string Tryz.underlying9 e4
  injection h0 with h0
  injection h1 with h1
  injection h2 with h2
  injection h3 with h3
  injection h4 with h4
  subst h0 h1 h2 h3 h4 g0 g1 g2 g3 g4
  have e1 : IntKind.i64.min = -9223372036854775808 := rfl
  have e2 : IntKind.i64.max = 9223372036854775807 := rfl
  refine ⟨z0, z1, z2, z3, z4, rfl, by simpa [Lit.wf, e1, e2] using w1, ?_⟩
  rw [hx1]
  rfl
theorem opDat_weights {H : Type} {k a b : Int} {x v : ByteArray} (h : ((opDat H k a b x v).weights Tryz.prog 28).all (· ≤ reachBytes) = true) : x.size ≤ reachBytes ∧ v.size ≤ reachBytes := by
  have hs : ∀ y : ByteArray, y.data.toList.length = y.size := fun y => by rw [Array.length_toList]; rfl
  simpa [opDat, DataW.weights, DataW.weightsEach, Tryz.underlying28, hs] using h
theorem weights_at {H : Type} {P : Program} : ∀ {ts : List TypeId} {ds : List (DataW H)} (_ : (DataW.weightsEach P ts ds).all (· ≤ reachBytes) = true) {j : Nat} {t : TypeId} {d : DataW H} (_ : ts[j]? = some t) (_ : ds[j]? = some d), (d.weights P t).all (· ≤ reachBytes) = true := by
  intro ts ds h j t d ht hd
  rw [List.all_eq_true]
  intro z hz
  exact List.all_eq_true.1 h z (DataW.weights_mem_each ht hd z hz)
/-- What an operation is that is handed in. -/
def opGiven (a : Int) (x v : ByteArray) : Prop := (-9223372036854775808 ≤ a ∧ a ≤ 9223372036854775807) ∧ x.size ≤ reachBytes ∧ v.size ≤ reachBytes
set_option maxRecDepth 100000 in
theorem open_op {H : Type} {enc : TypeId × Value → H} {W : World} {b0 : Nat} {v : Value} {d : DataW H} {ps : List MemPlace} (h : DataW.Trod enc Tryz.prog W 0 (fun _ => true) true 28 v d ps)
    (hv : Value.okWide Tryz.prog W .any b0 28 v) (hw : (d.weights Tryz.prog 28).all (· ≤ reachBytes) = true) : ∃ k a b x y, v = opA k a b x y ∧ opGiven a x y := by
  obtain ⟨cs, rfl, _⟩ := okWide_struct Tryz.underlying28 hv
  obtain ⟨fuel, hf⟩ := h
  obtain ⟨k, a, b, X, V, hcs, hr, hd⟩ := op_of_trod hf
  have hcs' : cs = #[.int .i64 k, .int .i64 a, .int .i64 b, .string X, .string V] := by
    apply Array.ext'
    exact hcs
  subst hcs'
  have hd' : d = opDat H k a b X V := hd
  rw [hd'] at hw
  exact ⟨k, a, b, X, V, rfl, hr, opDat_weights hw⟩
end Go.Proofs.YtlmbcclggaflaaaGreatDoor
namespace Go.Proofs.YtlmbcclggaflaaaGreatDoor
open Go Go.RowKit

/-- The keys. -/
def keyM (n : Nat) : List UInt8 :=
  if n = 0 then [97] else if n = 1 then [107, 48] else if n = 2 then [107, 49] else if n = 3 then [97, 46, 98, 45, 99, 95, 57] else if n = 4 then [45] else List.replicate 32 122
/-- The elements of Keep. -/
def keepM (key keep at' : Nat) : List Int := (List.range (1 + keep % 34)).map fun i => (((i * key + at' % 97) % 8193 : Nat) : Int)
theorem keepM_len (key keep at' : Nat) : (keepM key keep at').length = 1 + keep % 34 := by simp [keepM]
theorem keepM_mem {key keep at' : Nat} {k : Int} (h : k ∈ keepM key keep at') : 0 ≤ k ∧ k ≤ 8192 := by
  obtain ⟨i, _, rfl⟩ := List.mem_map.1 h
  omega
/-- The operation that is made of numbers. -/
def madeO (kind key keep at' : Nat) (val : List UInt8) : OpD :=
  if kind % 8 = 0 then ⟨1, 0, 0, pack (keyM (key % 6)), pack (val.take 512)⟩
  else if kind % 8 = 1 then ⟨2, 0, 0, pack (keyM (key % 6)), eB⟩
  else if kind % 8 = 2 then ⟨3, 0, 0, pack (keyM (key % 6)), eB⟩
  else if kind % 8 = 5 then ⟨6, ((1 + key % 2 : Nat) : Int), 0, eB, eB⟩
  else if kind % 8 = 6 then ⟨7, ((at' % 1000001 : Nat) : Int), ((key % 2 : Nat) : Int), eB, pack (keepT (keepM key keep at'))⟩
  else ⟨((1 + kind % 8 : Nat) : Int), 0, 0, eB, eB⟩
theorem madeO_kind (kind key keep at' : Nat) (val : List UInt8) : (madeO kind key keep at' val).kind = ((1 + kind % 8 : Nat) : Int) := by
  unfold madeO
  split
  · show (1 : Int) = _; omega
  · split
    · show (2 : Int) = _; omega
    · split
      · show (3 : Int) = _; omega
      · split
        · show (6 : Int) = _; omega
        · split
          · show (7 : Int) = _; omega
          · rfl
theorem keyM_ok (n : Nat) : keyV (keyM n) = 0 := by
  unfold keyM
  repeat' split
  all_goals kernel_rfl
theorem made_good (kind key keep at' : Nat) (val : List UInt8) : opGood (madeO kind key keep at' val) := by
  unfold madeO
  split
  · refine Or.inl ⟨rfl, rfl, rfl, ?_, ?_⟩
    · show keyV (pack (keyM (key % 6))).data.toList = 0
      rw [pack_data]
      exact keyM_ok _
    · show (pack (val.take 512)).size ≤ 512
      rw [pack_size, List.length_take]
      omega
  · split
    · refine Or.inr (Or.inl ⟨Or.inl rfl, rfl, rfl, ?_, rfl⟩)
      show keyV (pack (keyM (key % 6))).data.toList = 0
      rw [pack_data]
      exact keyM_ok _
    · split
      · refine Or.inr (Or.inl ⟨Or.inr rfl, rfl, rfl, ?_, rfl⟩)
        show keyV (pack (keyM (key % 6))).data.toList = 0
        rw [pack_data]
        exact keyM_ok _
      · split
        · refine Or.inr (Or.inr (Or.inr (Or.inl ⟨rfl, ?_, rfl, rfl, rfl⟩)))
          show ((1 + key % 2 : Nat) : Int) = 1 ∨ ((1 + key % 2 : Nat) : Int) = 2
          omega
        · split
          · refine Or.inr (Or.inr (Or.inr (Or.inr ⟨rfl, ?_, rfl, keepM key keep at', planOK_of ⟨?_, ?_, ?_, ?_, fun k hk => keepM_mem hk⟩, ?_⟩)))
            · show ((key % 2 : Nat) : Int) = 0 ∨ ((key % 2 : Nat) : Int) = 1
              omega
            · show 0 ≤ ((at' % 1000001 : Nat) : Int)
              omega
            · show ((at' % 1000001 : Nat) : Int) ≤ 1000000
              omega
            · rw [keepM_len]; omega
            · rw [keepM_len]; omega
            · show (pack (keepT (keepM key keep at'))).data.toList = _
              rw [pack_data]
          · refine Or.inr (Or.inr (Or.inl ⟨?_, rfl, rfl, rfl, rfl⟩))
            show ((1 + kind % 8 : Nat) : Int) = 4 ∨ ((1 + kind % 8 : Nat) : Int) = 5 ∨ ((1 + kind % 8 : Nat) : Int) = 8
            omega
end Go.Proofs.YtlmbcclggaflaaaGreatDoor
namespace Go.Proofs.YtlmbcclggaflaaaGreatDoor
open Go Go.RowKit

/-- Numbers as a value. -/
abbrev numV (K Y Q T : Nat) (u : Value) : Value := .agg #[.int .u8 K, .int .u8 Y, .int .u8 Q, .int .u32 T, u]
/-- Numbers in memory. -/
def NumBox (w : World) (B : Nat) (K Y Q T : Nat) (u : Value) : Prop := w.cell? ⟨B, 0, none⟩ = some (.int .u8 K) ∧ w.cell? ⟨B, 1, none⟩ = some (.int .u8 Y) ∧ w.cell? ⟨B, 2, none⟩ = some (.int .u8 Q) ∧ w.cell? ⟨B, 3, none⟩ = some (.int .u32 T) ∧ w.cell? ⟨B, 4, none⟩ = some u
theorem NumBox.new (w : World) (K Y Q T : Nat) (u : Value) (t : TypeId) : NumBox (w.alloc (.cells #[.int .u8 K, .int .u8 Y, .int .u8 Q, .int .u32 T, u] t)) w.heap.size K Y Q T u :=
  ⟨new_cell _ _ 0 _ rfl, new_cell _ _ 1 _ rfl, new_cell _ _ 2 _ rfl, new_cell _ _ 3 _ rfl, new_cell _ _ 4 _ rfl⟩
theorem NumBox.below {w w' : World} {B : Nat} {K Y Q T : Nat} {u : Value} (h : NumBox w B K Y Q T u) (hb : Below w.heap.size w w') : NumBox w' B K Y Q T u :=
  ⟨cell_kept h.1 hb, cell_kept h.2.1 hb, cell_kept h.2.2.1 hb, cell_kept h.2.2.2.1 hb, cell_kept h.2.2.2.2 hb⟩
theorem NumBox.block {w w' : World} {B : Nat} {K Y Q T : Nat} {u : Value} (h : NumBox w B K Y Q T u) (hb : w'.heap[B]? = w.heap[B]?) : NumBox w' B K Y Q T u :=
  ⟨(World.cell?_of_block (a := ⟨B, 0, none⟩) hb).trans h.1, (World.cell?_of_block (a := ⟨B, 1, none⟩) hb).trans h.2.1, (World.cell?_of_block (a := ⟨B, 2, none⟩) hb).trans h.2.2.1, (World.cell?_of_block (a := ⟨B, 3, none⟩) hb).trans h.2.2.2.1, (World.cell?_of_block (a := ⟨B, 4, none⟩) hb).trans h.2.2.2.2⟩
theorem results_o {fn : Func} {t : Tmp} (h : fn.results = #[.cell t 28]) (tmps : Array Value) (w : World) (B : Nat) (k a b : Int) (x v : ByteArray) (hp : OpBox w B k a b x v) (ht : tmps.getD t undef = .pointer (some ⟨B, 0, none⟩)) :
    (results fn tmps).run Tryz.prog w = .ok (opA k a b x v) w := by
  obtain ⟨⟨h0, h1, h2, h3, h4⟩, _⟩ := hp
  have ht' : tmps[t]?.getD undef = .pointer (some ⟨B, 0, none⟩) := by simpa using ht
  simp [results, h, ht', asAddr]
  go_simp
  done
/-- The cells of Made: what is handed in, the result, the variable. -/
structure MadeW (w w1 : World) (K Y Q T : Nat) (u : Value) (k a b : Int) (x v : ByteArray) : Prop where
  num : NumBox w1 w.heap.size K Y Q T u
  res : OpBox w1 (w.heap.size + 1) 0 0 0 ⟨#[]⟩ ⟨#[]⟩
  var : OpBox w1 (w.heap.size + 2) k a b x v
  bel : Below w.heap.size w w1
theorem MadeW.top (w : World) (K Y Q T : Nat) (u : Value) (k : Int) (t1 t2 : TypeId) : MadeW w (((w.alloc (.cells #[.int .u8 K, .int .u8 Y, .int .u8 Q, .int .u32 T, u] t1)).alloc (.cells #[.int .i64 0, .int .i64 0, .int .i64 0, .string ⟨#[]⟩, .string ⟨#[]⟩] t2)).alloc (.cells #[.int .i64 k, .int .i64 0, .int .i64 0, .string ⟨#[]⟩, .string ⟨#[]⟩] t2)) K Y Q T u k 0 0 ⟨#[]⟩ ⟨#[]⟩ := by
  have a1 : Below w.heap.size w (w.alloc (.cells #[.int .u8 K, .int .u8 Y, .int .u8 Q, .int .u32 T, u] t1)) := (Below.refl _ _).alloc (Nat.le_refl _) _
  have hs : (w.alloc (.cells #[.int .u8 K, .int .u8 Y, .int .u8 Q, .int .u32 T, u] t1)).heap.size = w.heap.size + 1 := World.size_alloc _ _
  have n0 := NumBox.new w K Y Q T u t1
  generalize (w.alloc (.cells #[.int .u8 K, .int .u8 Y, .int .u8 Q, .int .u32 T, u] t1)) = w1 at *
  have a2 : Below w1.heap.size w1 (w1.alloc (.cells #[.int .i64 0, .int .i64 0, .int .i64 0, .string ⟨#[]⟩, .string ⟨#[]⟩] t2)) := (Below.refl _ _).alloc (Nat.le_refl _) _
  have hs2 : (w1.alloc (.cells #[.int .i64 0, .int .i64 0, .int .i64 0, .string ⟨#[]⟩, .string ⟨#[]⟩] t2)).heap.size = w.heap.size + 2 := by rw [World.size_alloc, hs]
  have r0 := OpBox.new w1 0 0 0 ⟨#[]⟩ ⟨#[]⟩ t2
  rw [hs] at r0
  have n1 := n0.below a2
  have a12 := a1.trans (a2.mono a1.size)
  generalize (w1.alloc (.cells #[.int .i64 0, .int .i64 0, .int .i64 0, .string ⟨#[]⟩, .string ⟨#[]⟩] t2)) = w2 at *
  have a3 : Below w2.heap.size w2 (w2.alloc (.cells #[.int .i64 k, .int .i64 0, .int .i64 0, .string ⟨#[]⟩, .string ⟨#[]⟩] t2)) := (Below.refl _ _).alloc (Nat.le_refl _) _
  have v0 := OpBox.new w2 k 0 0 ⟨#[]⟩ ⟨#[]⟩ t2
  rw [hs2] at v0
  exact ⟨n1.below a3, r0.below a3, v0, a12.trans (a3.mono a12.size)⟩
theorem MadeW.below {w w1 w2 : World} {K Y Q T : Nat} {u : Value} {k a b : Int} {x v : ByteArray} (h : MadeW w w1 K Y Q T u k a b x v) (hb : Below w1.heap.size w1 w2) : MadeW w w2 K Y Q T u k a b x v :=
  ⟨h.num.below hb, h.res.below hb, h.var.below hb, h.bel.trans (hb.mono h.bel.size)⟩
theorem MadeW.drew {w w1 : World} {K Y Q T : Nat} {u : Value} {k a b : Int} {x v : ByteArray} (h : MadeW w w1 K Y Q T u k a b x v) : MadeW w w1.drew K Y Q T u k a b x v := h.below (Below.refl _ _).drew
theorem MadeW.set {w w1 : World} {K Y Q T : Nat} {u : Value} {k a b : Int} {x v : ByteArray} (h : MadeW w w1 K Y Q T u k a b x v) (j : Nat) (c : Value) {k' a' b' : Int} {x' v' : ByteArray} (hv : OpBox (w1.setCell ⟨w.heap.size + 2, j, none⟩ c) (w.heap.size + 2) k' a' b' x' v') :
    MadeW w (w1.setCell ⟨w.heap.size + 2, j, none⟩ c) K Y Q T u k' a' b' x' v' :=
  ⟨h.num.block (Below.heap_setCell _ _ _ _ (by simp)), h.res.block (Below.heap_setCell _ _ _ _ (by simp)), hv, below_set h.bel _ (by omega) j c⟩
theorem MadeW.set1 {w w1 : World} {K Y Q T : Nat} {u : Value} {k a b : Int} {x v : ByteArray} (h : MadeW w w1 K Y Q T u k a b x v) (c : Int) : MadeW w (w1.setCell ⟨w.heap.size + 2, 1, none⟩ (.int .i64 c)) K Y Q T u k c b x v := h.set 1 _ (h.var.set1 c)
theorem MadeW.set2 {w w1 : World} {K Y Q T : Nat} {u : Value} {k a b : Int} {x v : ByteArray} (h : MadeW w w1 K Y Q T u k a b x v) (c : Int) : MadeW w (w1.setCell ⟨w.heap.size + 2, 2, none⟩ (.int .i64 c)) K Y Q T u k a c x v := h.set 2 _ (h.var.set2 c)
theorem MadeW.set3 {w w1 : World} {K Y Q T : Nat} {u : Value} {k a b : Int} {x v : ByteArray} (h : MadeW w w1 K Y Q T u k a b x v) (c : ByteArray) : MadeW w (w1.setCell ⟨w.heap.size + 2, 3, none⟩ (.string c)) K Y Q T u k a b c v := h.set 3 _ (h.var.set3 c)
theorem MadeW.set4 {w w1 : World} {K Y Q T : Nat} {u : Value} {k a b : Int} {x v : ByteArray} (h : MadeW w w1 K Y Q T u k a b x v) (c : ByteArray) : MadeW w (w1.setCell ⟨w.heap.size + 2, 4, none⟩ (.string c)) K Y Q T u k a b x c := h.set 4 _ (h.var.set4 c)
set_option maxRecDepth 100000 in
set_option maxHeartbeats 2000000 in
theorem made_rest (K Y Q T : Nat) (hK : K < 256) (h5 : K % 8 = 3 ∨ K % 8 = 4 ∨ K % 8 = 7) (u : Value) (w : World) :
    Calls Tryz.prog 13 #[numV K Y Q T u] w fun e w' => e = .returned (opA (1 + (K : Int) % 8) 0 0 ⟨#[]⟩ ⟨#[]⟩) ∧ Below w.heap.size w w' := by
  have HW := Lib.hid (MadeW.top w K Y Q T u (1 + (K : Int) % 8) 25 28)
  obtain ⟨n0, n1, n2, n3, n4⟩ := (NumBox.new w K Y Q T u 25).below ((Below.refl _ (w.alloc (.cells #[.int .u8 K, .int .u8 Y, .int .u8 Q, .int .u32 T, u] 25))).alloc (Nat.le_refl _) (.cells #[.int .i64 0, .int .i64 0, .int .i64 0, .string ⟨#[]⟩, .string ⟨#[]⟩] 28))
  go_enter Tryz.func13, Tryz.ntmps13
  go_upto_region 19 with fail
  generalize (((w.alloc (.cells #[.int .u8 K, .int .u8 Y, .int .u8 Q, .int .u32 T, u] 25)).alloc (.cells #[.int .i64 0, .int .i64 0, .int .i64 0, .string ⟨#[]⟩, .string ⟨#[]⟩] 28)).alloc (.cells #[.int .i64 (1 + (K : Int) % 8), .int .i64 0, .int .i64 0, .string ⟨#[]⟩, .string ⟨#[]⟩] 28)) = w1 at *
  clear n0 n1 n2 n3 n4
  obtain ⟨n0, n1, n2, n3, n4⟩ := HW.out.num
  obtain ⟨⟨r0, r1, r2, r3, r4⟩, rf⟩ := HW.out.res
  obtain ⟨⟨v0, v1, v2, v3, v4⟩, vf⟩ := HW.out.var
  have rf0 := rf 0
  have rf1 := rf 1
  have rf2 := rf 2
  have rf3 := rf 3
  have rf4 := rf 4
  have vf0 := vf 0
  have vf1 := vf 1
  have vf2 := vf 2
  have vf3 := vf 3
  have vf4 := vf 4
  clear rf vf
  go_wp2_with fail
  exact bodyPost_ret (results_o rfl _ _ (w.heap.size + 1) (1 + (K : Int) % 8) 0 0 ⟨#[]⟩ ⟨#[]⟩ (set5_at HW.out.res _ _ _ _ _) rfl) rfl ⟨rfl, set5_below HW.out.bel (by omega) _ _ _ _ _⟩
set_option maxRecDepth 100000 in
set_option maxHeartbeats 2000000 in
theorem made_policy (K Y Q T : Nat) (hK : K < 256) (hY : Y < 256) (h5 : K % 8 = 5) (u : Value) (w : World) :
    Calls Tryz.prog 13 #[numV K Y Q T u] w fun e w' => e = .returned (opA (1 + (K : Int) % 8) (1 + (Y : Int) % 2) 0 ⟨#[]⟩ ⟨#[]⟩) ∧ Below w.heap.size w w' := by
  have HW := Lib.hid (MadeW.top w K Y Q T u (1 + (K : Int) % 8) 25 28)
  obtain ⟨n0, n1, n2, n3, n4⟩ := (NumBox.new w K Y Q T u 25).below ((Below.refl _ (w.alloc (.cells #[.int .u8 K, .int .u8 Y, .int .u8 Q, .int .u32 T, u] 25))).alloc (Nat.le_refl _) (.cells #[.int .i64 0, .int .i64 0, .int .i64 0, .string ⟨#[]⟩, .string ⟨#[]⟩] 28))
  go_enter Tryz.func13, Tryz.ntmps13
  go_upto_region 10 with fail
  generalize (((w.alloc (.cells #[.int .u8 K, .int .u8 Y, .int .u8 Q, .int .u32 T, u] 25)).alloc (.cells #[.int .i64 0, .int .i64 0, .int .i64 0, .string ⟨#[]⟩, .string ⟨#[]⟩] 28)).alloc (.cells #[.int .i64 (1 + (K : Int) % 8), .int .i64 0, .int .i64 0, .string ⟨#[]⟩, .string ⟨#[]⟩] 28)) = w1 at *
  clear n0 n1 n2 n3 n4
  obtain ⟨n0, n1, n2, n3, n4⟩ := HW.out.num
  obtain ⟨⟨r0, r1, r2, r3, r4⟩, rf⟩ := HW.out.res
  obtain ⟨⟨v0, v1, v2, v3, v4⟩, vf⟩ := HW.out.var
  have rf0 := rf 0
  have rf1 := rf 1
  have rf2 := rf 2
  have rf3 := rf 3
  have rf4 := rf 4
  have vf0 := vf 0
  have vf1 := vf 1
  have vf2 := vf 2
  have vf3 := vf 3
  have vf4 := vf 4
  clear rf vf
  go_upto_region 19 with fail
  replace HW := Lib.hid (HW.out.set1 (1 + (Y : Int) % 2))
  clear n0 n1 n2 n3 n4 r0 r1 r2 r3 r4 v0 v1 v2 v3 v4 rf0 rf1 rf2 rf3 rf4 vf0 vf1 vf2 vf3 vf4
  obtain ⟨n0, n1, n2, n3, n4⟩ := HW.out.num
  obtain ⟨⟨r0, r1, r2, r3, r4⟩, rf⟩ := HW.out.res
  obtain ⟨⟨v0, v1, v2, v3, v4⟩, vf⟩ := HW.out.var
  have rf0 := rf 0
  have rf1 := rf 1
  have rf2 := rf 2
  have rf3 := rf 3
  have rf4 := rf 4
  have vf0 := vf 0
  have vf1 := vf 1
  have vf2 := vf 2
  have vf3 := vf 3
  have vf4 := vf 4
  clear rf vf
  go_wp2_with fail
  exact bodyPost_ret (results_o rfl _ _ (w.heap.size + 1) (1 + (K : Int) % 8) (1 + (Y : Int) % 2) 0 ⟨#[]⟩ ⟨#[]⟩ (set5_at HW.out.res _ _ _ _ _) rfl) rfl ⟨rfl, set5_below HW.out.bel (by omega) _ _ _ _ _⟩
end Go.Proofs.YtlmbcclggaflaaaGreatDoor
namespace Go.Proofs.YtlmbcclggaflaaaGreatDoor
open Go Go.RowKit

theorem repz (w : World) : Calls Tryz.prog 14 #[.string ⟨#[122]⟩, .int .i64 32] w fun e w' => e = .returned (.string (pack (keyM 5))) ∧ Below w.heap.size w w' := by
  have h := Tryz.strings_Repeat_main ⟨#[122]⟩ 32 w (by decide) (by decide) (by decide) (by decide)
  have e : (⟨(Lib.repeatL (⟨#[122]⟩ : ByteArray).data.toList 32).toArray⟩ : ByteArray) = pack (keyM 5) := by kernel_rfl
  rw [e] at h
  exact h
theorem key_cell (w : World) (i : Nat) (hi : i < 6) (t : TypeId) : (w.alloc (.cells #[.string ⟨#[97]⟩, .string ⟨#[107, 48]⟩, .string ⟨#[107, 49]⟩, .string ⟨#[97, 46, 98, 45, 99, 95, 57]⟩, .string ⟨#[45]⟩, .string (pack (keyM 5))] t)).cell? ⟨w.heap.size, i, none⟩ = some (.string (pack (keyM i))) := by
  rcases (show i = 0 ∨ i = 1 ∨ i = 2 ∨ i = 3 ∨ i = 4 ∨ i = 5 by omega) with rfl | rfl | rfl | rfl | rfl | rfl
  · exact new_cell _ _ 0 _ rfl
  · exact new_cell _ _ 1 _ rfl
  · exact new_cell _ _ 2 _ rfl
  · exact new_cell _ _ 3 _ rfl
  · exact new_cell _ _ 4 _ rfl
  · exact new_cell _ _ 5 _ rfl
set_option maxRecDepth 100000 in
set_option maxHeartbeats 2000000 in
theorem made_key (K Y Q T : Nat) (hK : K < 256) (i : Nat) (hi : Y % 6 = i) (h5 : K % 8 = 1 ∨ K % 8 = 2) (u : Value) (w : World) :
    Calls Tryz.prog 13 #[numV K Y Q T u] w fun e w' => e = .returned (opA (1 + (K : Int) % 8) 0 0 (pack (keyM i)) ⟨#[]⟩) ∧ Below w.heap.size w w' := by
  rcases h5 with h5 | h5
  all_goals
    have HW := Lib.hid (MadeW.top w K Y Q T u (1 + (K : Int) % 8) 25 28)
    obtain ⟨n0, n1, n2, n3, n4⟩ := (NumBox.new w K Y Q T u 25).below ((Below.refl _ (w.alloc (.cells #[.int .u8 K, .int .u8 Y, .int .u8 Q, .int .u32 T, u] 25))).alloc (Nat.le_refl _) (.cells #[.int .i64 0, .int .i64 0, .int .i64 0, .string ⟨#[]⟩, .string ⟨#[]⟩] 28))
    go_enter Tryz.func13, Tryz.ntmps13
    go_upto_region 9 with fail
    generalize (((w.alloc (.cells #[.int .u8 K, .int .u8 Y, .int .u8 Q, .int .u32 T, u] 25)).alloc (.cells #[.int .i64 0, .int .i64 0, .int .i64 0, .string ⟨#[]⟩, .string ⟨#[]⟩] 28)).alloc (.cells #[.int .i64 (1 + (K : Int) % 8), .int .i64 0, .int .i64 0, .string ⟨#[]⟩, .string ⟨#[]⟩] 28)) = w1 at *
    clear n0 n1 n2 n3 n4
    obtain ⟨n0, n1, n2, n3, n4⟩ := HW.out.drew.num
    have vf3 := HW.out.drew.var.2 3
    refine wp_region_noPanic ?_
    refine wp_region_held_drew (S := fun w' => w'.cell? ⟨w.heap.size, 1, none⟩ = some (.int .u8 Y) ∧ w'.frozen? ⟨w.heap.size + 2, 3, none⟩ = false) (by kernel_rfl) ⟨n1, vf3⟩ (fun hHeld => ?_)
    refine wpAnyH_take (i := 2) (v := ?_) rfl (by kernel_rfl) (by kernel_rfl) (by kernel_rfl) (fun _ _ _ h => h) (Or.inl ⟨by rfl, ?_⟩) (by assumption) ?_
    rotate_left
    · intro w hSw
      obtain ⟨hs0, hs1⟩ := hSw
      go_simp
      with_reducible rfl
    try simp only [List.getElem_toArray]
    try simp only [List.getElem_cons_succ]
    try simp only [List.getElem_cons_zero]
    try simp only [Act.put]
    try simp only [List.setIfInBounds_toArray]
    try simp only [List.set_cons_succ]
    try simp only [List.set_cons_zero]
    refine wpAnyH_take (i := 3) (v := ?_) rfl (by kernel_rfl) (by kernel_rfl) (by kernel_rfl) (fun _ _ _ h => h) (Or.inl ⟨by rfl, ?_⟩) (by assumption) ?_
    rotate_left
    · intro w hSw
      obtain ⟨hs0, hs1⟩ := hSw
      go_simp
      with_reducible rfl
    try simp only [List.getElem_toArray]
    try simp only [List.getElem_cons_succ]
    try simp only [List.getElem_cons_zero]
    try simp only [Act.put]
    try simp only [List.setIfInBounds_toArray]
    try simp only [List.set_cons_succ]
    try simp only [List.set_cons_zero]
    refine wpAnyH_take (i := 4) (v := ?_) rfl (by kernel_rfl) (by kernel_rfl) (by kernel_rfl) (fun _ _ _ h => h) (Or.inl ⟨by rfl, ?_⟩) (by assumption) ?_
    rotate_left
    · intro w hSw
      obtain ⟨hs0, hs1⟩ := hSw
      go_simp
      with_reducible rfl
    try simp only [List.getElem_toArray]
    try simp only [List.getElem_cons_succ]
    try simp only [List.getElem_cons_zero]
    try simp only [Act.put]
    try simp only [List.setIfInBounds_toArray]
    try simp only [List.set_cons_succ]
    try simp only [List.set_cons_zero]
    rw [show ((Y : Int).tmod 6) = (i : Int) from by rw [← hi]; exact (Int.ofNat_tmod Y 6).symm]
    have hi6 : 0 ≤ (i : Int) ∧ (i : Int) < 6 := by omega
    have hi7 : i < 6 := by omega
    refine wpAnyH_ready (rs := [0]) (by kernel_rfl) (by simp) ?_
    refine AllReadyH.cons rfl (fun KK hK => ?_) AllReadyH.nil
    go_simp
    refine (repz _).mono ?_
    rintro e w4 ⟨rfl, b1⟩
    have HW4 := Lib.hid (HW.out.drew.below b1)
    have a5 := (Below.refl w4.heap.size w4).alloc (Nat.le_refl _) (.cells #[.string ⟨#[97]⟩, .string ⟨#[107, 48]⟩, .string ⟨#[107, 49]⟩, .string ⟨#[97, 46, 98, 45, 99, 95, 57]⟩, .string ⟨#[45]⟩, .string (pack (keyM 5))] 9)
    have HW5 := Lib.hid (HW4.out.below a5)
    have mn := key_cell w4 i hi7 9
    refine hK.out _ _ ⟨HW4.out.num.2.1, HW4.out.var.2 3⟩ (fun hHeld2 => ?_)
    clear hK KK hHeld b1 a5 n0 n1 n2 n3 n4 vf3 HW
    try simp only [List.getElem_toArray]
    try simp only [List.getElem_cons_succ]
    try simp only [List.getElem_cons_zero]
    try simp only [Act.put]
    try simp only [List.setIfInBounds_toArray]
    try simp only [List.set_cons_succ]
    try simp only [List.set_cons_zero]
    refine wpAnyH_ready (rs := [1]) (by kernel_rfl) (by simp) ?_
    refine AllReadyH.cons rfl (fun K hK => ?_) AllReadyH.nil
    go_simp
    refine hK.out _ _ ⟨HW5.out.num.2.1, HW5.out.var.2 3⟩ (fun hHeld => ?_)
    clear hK K
    try simp only [List.getElem_toArray]
    try simp only [List.getElem_cons_succ]
    try simp only [List.getElem_cons_zero]
    try simp only [Act.put]
    try simp only [List.setIfInBounds_toArray]
    try simp only [List.set_cons_succ]
    try simp only [List.set_cons_zero]
    generalize (w4.alloc (.cells #[.string ⟨#[97]⟩, .string ⟨#[107, 48]⟩, .string ⟨#[107, 49]⟩, .string ⟨#[97, 46, 98, 45, 99, 95, 57]⟩, .string ⟨#[45]⟩, .string (pack (keyM 5))] 9)) = w5 at *
    refine wpAnyH_take (i := 5) (v := ?_) rfl (by kernel_rfl) (by kernel_rfl) (by kernel_rfl) (fun _ _ _ h => h) (Or.inl ⟨by rfl, ?_⟩) (by assumption) ?_
    rotate_left
    · intro w hSw
      obtain ⟨hs0, hs1⟩ := hSw
      go_simp
      with_reducible rfl
    try simp only [List.getElem_toArray]
    try simp only [List.getElem_cons_succ]
    try simp only [List.getElem_cons_zero]
    try simp only [Act.put]
    try simp only [List.setIfInBounds_toArray]
    try simp only [List.set_cons_succ]
    try simp only [List.set_cons_zero]
    refine wpAnyH_ready (rs := [6]) (by kernel_rfl) (by simp) ?_
    refine AllReadyH.cons rfl (fun K hK => ?_) AllReadyH.nil
    go_simp
    refine hK.out _ _ ⟨HW5.out.num.2.1, HW5.out.var.2 3⟩ (fun hHeld => ?_)
    clear hK K
    try simp only [List.getElem_toArray]
    try simp only [List.getElem_cons_succ]
    try simp only [List.getElem_cons_zero]
    try simp only [Act.put]
    try simp only [List.setIfInBounds_toArray]
    try simp only [List.set_cons_succ]
    try simp only [List.set_cons_zero]
    refine wpAnyH_take (i := 7) (v := ?_) rfl (by kernel_rfl) (by kernel_rfl) (by kernel_rfl) (fun _ _ _ h => h) (Or.inl ⟨by rfl, ?_⟩) (by assumption) ?_
    rotate_left
    · intro w hSw
      obtain ⟨hs0, hs1⟩ := hSw
      go_simp
      with_reducible rfl
    try simp only [List.getElem_toArray]
    try simp only [List.getElem_cons_succ]
    try simp only [List.getElem_cons_zero]
    try simp only [Act.put]
    try simp only [List.setIfInBounds_toArray]
    try simp only [List.set_cons_succ]
    try simp only [List.set_cons_zero]
    have HW := Lib.hid (HW5.out.set3 (pack (keyM i)))
    obtain ⟨⟨v0, v1, v2, v3, v4⟩, vf⟩ := HW5.out.var
    have vf3 := vf 3
    clear vf
    refine wpAnyH_ready (rs := [8]) (by kernel_rfl) (by simp) ?_
    refine AllReadyH.cons rfl (fun K hK => ?_) AllReadyH.nil
    go_simp
    refine hK.out _ _ ⟨HW.out.num.2.1, HW.out.var.2 3⟩ (fun hHeld => ?_)
    clear hK K
    try simp only [List.getElem_toArray]
    try simp only [List.getElem_cons_succ]
    try simp only [List.getElem_cons_zero]
    try simp only [Act.put]
    try simp only [List.setIfInBounds_toArray]
    try simp only [List.set_cons_succ]
    try simp only [List.set_cons_zero]
    refine wpAnyH_done (by kernel_rfl) ?_ _
    refine NoPanic.normal ?_
    clear v0 v1 v2 v3 v4 vf3
    obtain ⟨n0, n1, n2, n3, n4⟩ := HW.out.num
    obtain ⟨⟨r0, r1, r2, r3, r4⟩, rf⟩ := HW.out.res
    obtain ⟨⟨v0, v1, v2, v3, v4⟩, vf⟩ := HW.out.var
    have rf0 := rf 0
    have rf1 := rf 1
    have rf2 := rf 2
    have rf3 := rf 3
    have rf4 := rf 4
    have vf0 := vf 0
    have vf1 := vf 1
    have vf2 := vf 2
    have vf3 := vf 3
    have vf4 := vf 4
    clear rf vf
    go_wp2_with fail
    exact bodyPost_ret (results_o rfl _ _ (w.heap.size + 1) (1 + (K : Int) % 8) 0 0 (pack (keyM i)) ⟨#[]⟩ (set5_at HW.out.res _ _ _ _ _) rfl) rfl ⟨rfl, set5_below HW.out.bel (by omega) _ _ _ _ _⟩
set_option maxRecDepth 100000 in
set_option maxHeartbeats 2000000 in
theorem made_put (K Y Q T : Nat) (hK : K < 256) (i : Nat) (hi : Y % 6 = i) (h5 : K % 8 = 0) (u : Value) (l : List UInt8) (w : World) (hu : BytesAt w u l) :
    Calls Tryz.prog 13 #[numV K Y Q T u] w fun e w' => e = .returned (opA (1 + (K : Int) % 8) 0 0 (pack (keyM i)) (pack (l.take 512))) ∧ Below w.heap.size w w' := by
  obtain ⟨p, n, c, m, l2, rfl, hn, hmin, hm3, hmn, hl2t, hl2, hv2, hcut⟩ := cut_bytes hu 512
  have hmin2 : min (n : Int) 512 = (m : Int) := hmin
  have hV : pack (l.take 512) = (⟨l2.toArray⟩ : ByteArray) := by
    have e : l.take 512 = l2 := by
      rw [hl2t, List.take_eq_take_iff]
      omega
    rw [e]
    rfl
  rw [hV]
  clear hV
  obtain ⟨V, hV⟩ : ∃ V, (⟨l2.toArray⟩ : ByteArray) = V := ⟨_, rfl⟩
  rw [hV]
  have HVV := Lib.hid hV
  clear hV
  have HV := Lib.hid hv2
  clear hv2 hn hmin hl2t hu
  have HW := Lib.hid (MadeW.top w K Y Q T (.slice p n c) (1 + (K : Int) % 8) 25 28)
  obtain ⟨n0, n1, n2, n3, n4⟩ := (NumBox.new w K Y Q T (.slice p n c) 25).below ((Below.refl _ (w.alloc (.cells #[.int .u8 K, .int .u8 Y, .int .u8 Q, .int .u32 T, (.slice p n c)] 25))).alloc (Nat.le_refl _) (.cells #[.int .i64 0, .int .i64 0, .int .i64 0, .string ⟨#[]⟩, .string ⟨#[]⟩] 28))
  go_enter Tryz.func13, Tryz.ntmps13
  go_upto_region 8 with fail
  generalize (((w.alloc (.cells #[.int .u8 K, .int .u8 Y, .int .u8 Q, .int .u32 T, (.slice p n c)] 25)).alloc (.cells #[.int .i64 0, .int .i64 0, .int .i64 0, .string ⟨#[]⟩, .string ⟨#[]⟩] 28)).alloc (.cells #[.int .i64 (1 + (K : Int) % 8), .int .i64 0, .int .i64 0, .string ⟨#[]⟩, .string ⟨#[]⟩] 28)) = w1 at *
  clear n0 n1 n2 n3 n4
  have hcv := (HV.out.below HW.out.bel).convert 23 9 5 Tryz.underlying23 Tryz.underlying5 Tryz.underlying9
  rw [HVV.out] at hcv
  obtain ⟨n0, n1, n2, n3, n4⟩ := HW.out.num
  obtain ⟨⟨r0, r1, r2, r3, r4⟩, rf⟩ := HW.out.res
  obtain ⟨⟨v0, v1, v2, v3, v4⟩, vf⟩ := HW.out.var
  have rf0 := rf 0
  have rf1 := rf 1
  have rf2 := rf 2
  have rf3 := rf 3
  have rf4 := rf 4
  have vf0 := vf 0
  have vf1 := vf 1
  have vf2 := vf 2
  have vf3 := vf 3
  have vf4 := vf 4
  clear rf vf
  go_upto_region 9 with fail
  replace HW := Lib.hid (HW.out.set4 V)
  clear n0 n1 n2 n3 n4 r0 r1 r2 r3 r4 v0 v1 v2 v3 v4 rf0 rf1 rf2 rf3 rf4 vf0 vf1 vf2 vf3 vf4 hcv
  generalize (w1.setCell ⟨w.heap.size + 2, 4, none⟩ (.string V)) = w2 at *
  obtain ⟨n0, n1, n2, n3, n4⟩ := HW.out.drew.num
  have vf3 := HW.out.drew.var.2 3
  refine wp_region_noPanic ?_
  refine wp_region_held_drew (S := fun w' => w'.cell? ⟨w.heap.size, 1, none⟩ = some (.int .u8 Y) ∧ w'.frozen? ⟨w.heap.size + 2, 3, none⟩ = false) (by kernel_rfl) ⟨n1, vf3⟩ (fun hHeld => ?_)
  refine wpAnyH_take (i := 2) (v := ?_) rfl (by kernel_rfl) (by kernel_rfl) (by kernel_rfl) (fun _ _ _ h => h) (Or.inl ⟨by rfl, ?_⟩) (by assumption) ?_
  rotate_left
  · intro w hSw
    obtain ⟨hs0, hs1⟩ := hSw
    go_simp
    with_reducible rfl
  try simp only [List.getElem_toArray]
  try simp only [List.getElem_cons_succ]
  try simp only [List.getElem_cons_zero]
  try simp only [Act.put]
  try simp only [List.setIfInBounds_toArray]
  try simp only [List.set_cons_succ]
  try simp only [List.set_cons_zero]
  refine wpAnyH_take (i := 3) (v := ?_) rfl (by kernel_rfl) (by kernel_rfl) (by kernel_rfl) (fun _ _ _ h => h) (Or.inl ⟨by rfl, ?_⟩) (by assumption) ?_
  rotate_left
  · intro w hSw
    obtain ⟨hs0, hs1⟩ := hSw
    go_simp
    with_reducible rfl
  try simp only [List.getElem_toArray]
  try simp only [List.getElem_cons_succ]
  try simp only [List.getElem_cons_zero]
  try simp only [Act.put]
  try simp only [List.setIfInBounds_toArray]
  try simp only [List.set_cons_succ]
  try simp only [List.set_cons_zero]
  refine wpAnyH_take (i := 4) (v := ?_) rfl (by kernel_rfl) (by kernel_rfl) (by kernel_rfl) (fun _ _ _ h => h) (Or.inl ⟨by rfl, ?_⟩) (by assumption) ?_
  rotate_left
  · intro w hSw
    obtain ⟨hs0, hs1⟩ := hSw
    go_simp
    with_reducible rfl
  try simp only [List.getElem_toArray]
  try simp only [List.getElem_cons_succ]
  try simp only [List.getElem_cons_zero]
  try simp only [Act.put]
  try simp only [List.setIfInBounds_toArray]
  try simp only [List.set_cons_succ]
  try simp only [List.set_cons_zero]
  rw [show ((Y : Int).tmod 6) = (i : Int) from by rw [← hi]; exact (Int.ofNat_tmod Y 6).symm]
  have hi6 : 0 ≤ (i : Int) ∧ (i : Int) < 6 := by omega
  have hi7 : i < 6 := by omega
  refine wpAnyH_ready (rs := [0]) (by kernel_rfl) (by simp) ?_
  refine AllReadyH.cons rfl (fun KK hK => ?_) AllReadyH.nil
  go_simp
  refine (repz _).mono ?_
  rintro e w4 ⟨rfl, b1⟩
  have HW4 := Lib.hid (HW.out.drew.below b1)
  have a5 := (Below.refl w4.heap.size w4).alloc (Nat.le_refl _) (.cells #[.string ⟨#[97]⟩, .string ⟨#[107, 48]⟩, .string ⟨#[107, 49]⟩, .string ⟨#[97, 46, 98, 45, 99, 95, 57]⟩, .string ⟨#[45]⟩, .string (pack (keyM 5))] 9)
  have HW5 := Lib.hid (HW4.out.below a5)
  have mn := key_cell w4 i hi7 9
  refine hK.out _ _ ⟨HW4.out.num.2.1, HW4.out.var.2 3⟩ (fun hHeld2 => ?_)
  clear hK KK hHeld b1 a5 n0 n1 n2 n3 n4 vf3 HW
  try simp only [List.getElem_toArray]
  try simp only [List.getElem_cons_succ]
  try simp only [List.getElem_cons_zero]
  try simp only [Act.put]
  try simp only [List.setIfInBounds_toArray]
  try simp only [List.set_cons_succ]
  try simp only [List.set_cons_zero]
  refine wpAnyH_ready (rs := [1]) (by kernel_rfl) (by simp) ?_
  refine AllReadyH.cons rfl (fun K hK => ?_) AllReadyH.nil
  go_simp
  refine hK.out _ _ ⟨HW5.out.num.2.1, HW5.out.var.2 3⟩ (fun hHeld => ?_)
  clear hK K
  try simp only [List.getElem_toArray]
  try simp only [List.getElem_cons_succ]
  try simp only [List.getElem_cons_zero]
  try simp only [Act.put]
  try simp only [List.setIfInBounds_toArray]
  try simp only [List.set_cons_succ]
  try simp only [List.set_cons_zero]
  generalize (w4.alloc (.cells #[.string ⟨#[97]⟩, .string ⟨#[107, 48]⟩, .string ⟨#[107, 49]⟩, .string ⟨#[97, 46, 98, 45, 99, 95, 57]⟩, .string ⟨#[45]⟩, .string (pack (keyM 5))] 9)) = w5 at *
  refine wpAnyH_take (i := 5) (v := ?_) rfl (by kernel_rfl) (by kernel_rfl) (by kernel_rfl) (fun _ _ _ h => h) (Or.inl ⟨by rfl, ?_⟩) (by assumption) ?_
  rotate_left
  · intro w hSw
    obtain ⟨hs0, hs1⟩ := hSw
    go_simp
    with_reducible rfl
  try simp only [List.getElem_toArray]
  try simp only [List.getElem_cons_succ]
  try simp only [List.getElem_cons_zero]
  try simp only [Act.put]
  try simp only [List.setIfInBounds_toArray]
  try simp only [List.set_cons_succ]
  try simp only [List.set_cons_zero]
  refine wpAnyH_ready (rs := [6]) (by kernel_rfl) (by simp) ?_
  refine AllReadyH.cons rfl (fun K hK => ?_) AllReadyH.nil
  go_simp
  refine hK.out _ _ ⟨HW5.out.num.2.1, HW5.out.var.2 3⟩ (fun hHeld => ?_)
  clear hK K
  try simp only [List.getElem_toArray]
  try simp only [List.getElem_cons_succ]
  try simp only [List.getElem_cons_zero]
  try simp only [Act.put]
  try simp only [List.setIfInBounds_toArray]
  try simp only [List.set_cons_succ]
  try simp only [List.set_cons_zero]
  refine wpAnyH_take (i := 7) (v := ?_) rfl (by kernel_rfl) (by kernel_rfl) (by kernel_rfl) (fun _ _ _ h => h) (Or.inl ⟨by rfl, ?_⟩) (by assumption) ?_
  rotate_left
  · intro w hSw
    obtain ⟨hs0, hs1⟩ := hSw
    go_simp
    with_reducible rfl
  try simp only [List.getElem_toArray]
  try simp only [List.getElem_cons_succ]
  try simp only [List.getElem_cons_zero]
  try simp only [Act.put]
  try simp only [List.setIfInBounds_toArray]
  try simp only [List.set_cons_succ]
  try simp only [List.set_cons_zero]
  have HW := Lib.hid (HW5.out.set3 (pack (keyM i)))
  obtain ⟨⟨v0, v1, v2, v3, v4⟩, vf⟩ := HW5.out.var
  have vf3 := vf 3
  clear vf
  refine wpAnyH_ready (rs := [8]) (by kernel_rfl) (by simp) ?_
  refine AllReadyH.cons rfl (fun K hK => ?_) AllReadyH.nil
  go_simp
  refine hK.out _ _ ⟨HW.out.num.2.1, HW.out.var.2 3⟩ (fun hHeld => ?_)
  clear hK K
  try simp only [List.getElem_toArray]
  try simp only [List.getElem_cons_succ]
  try simp only [List.getElem_cons_zero]
  try simp only [Act.put]
  try simp only [List.setIfInBounds_toArray]
  try simp only [List.set_cons_succ]
  try simp only [List.set_cons_zero]
  refine wpAnyH_done (by kernel_rfl) ?_ _
  refine NoPanic.normal ?_
  clear v0 v1 v2 v3 v4 vf3
  obtain ⟨n0, n1, n2, n3, n4⟩ := HW.out.num
  obtain ⟨⟨r0, r1, r2, r3, r4⟩, rf⟩ := HW.out.res
  obtain ⟨⟨v0, v1, v2, v3, v4⟩, vf⟩ := HW.out.var
  have rf0 := rf 0
  have rf1 := rf 1
  have rf2 := rf 2
  have rf3 := rf 3
  have rf4 := rf 4
  have vf0 := vf 0
  have vf1 := vf 1
  have vf2 := vf 2
  have vf3 := vf 3
  have vf4 := vf 4
  clear rf vf
  go_wp2_with fail
  exact bodyPost_ret (results_o rfl _ _ (w.heap.size + 1) (1 + (K : Int) % 8) 0 0 (pack (keyM i)) V (set5_at HW.out.res _ _ _ _ _) rfl) rfl ⟨rfl, set5_below HW.out.bel (by omega) _ _ _ _ _⟩
end Go.Proofs.YtlmbcclggaflaaaGreatDoor
namespace Go.Proofs.YtlmbcclggaflaaaGreatDoor
open Go Go.RowKit

theorem keepM_get (Y Q T i : Nat) (hi : i < 1 + Q % 34) : (keepM Y Q T).getD i 0 = (((i * Y + T % 97) % 8193 : Nat) : Int) := by
  unfold keepM
  rw [List.getD, List.getElem?_map, List.getElem?_range hi]
  rfl
set_option maxRecDepth 100000 in
set_option maxHeartbeats 4000000 in
theorem made_crash (K Y Q T : Nat) (hK : K < 256) (hY : Y < 256) (hQ : Q < 256) (hT : T < 4294967296) (h5 : K % 8 = 6) (u : Value) (w : World) (ht : Tab w) (J : ByteArray) (hJ : pack (keepT (keepM Y Q T)) = J) :
    Calls Tryz.prog 13 #[numV K Y Q T u] w fun e w' => e = .returned (opA (1 + (K : Int) % 8) ((T : Int) % 1000001) ((Y : Int) % 2) ⟨#[]⟩ J) ∧ Below w.heap.size w w' := by
  have HTB := Lib.hid ht
  have HJ0 := Lib.hid hJ
  clear ht hJ
  obtain ⟨i0, hi0, hz0, hz1, hz2⟩ := info_parts infoStr
  have d1 : (1 + (K : Int) % 8 == 1) = false := by rw [beq_eq_false_iff_ne]; omega
  have d2 : (1 + (K : Int) % 8 == 2) = false := by rw [beq_eq_false_iff_ne]; omega
  have d3 : (1 + (K : Int) % 8 == 3) = false := by rw [beq_eq_false_iff_ne]; omega
  have d6 : (1 + (K : Int) % 8 == 6) = false := by rw [beq_eq_false_iff_ne]; omega
  have d7 : (1 + (K : Int) % 8 == 7) = true := by rw [beq_iff_eq]; omega
  have HW := Lib.hid (MadeW.top w K Y Q T u (1 + (K : Int) % 8) 25 28)
  obtain ⟨n0, n1, n2, n3, n4⟩ := (NumBox.new w K Y Q T u 25).below ((Below.refl _ (w.alloc (.cells #[.int .u8 K, .int .u8 Y, .int .u8 Q, .int .u32 T, u] 25))).alloc (Nat.le_refl _) (.cells #[.int .i64 0, .int .i64 0, .int .i64 0, .string ⟨#[]⟩, .string ⟨#[]⟩] 28))
  go_enter Tryz.func13, Tryz.ntmps13
  go_upto_region 11 with fail
  generalize (((w.alloc (.cells #[.int .u8 K, .int .u8 Y, .int .u8 Q, .int .u32 T, u] 25)).alloc (.cells #[.int .i64 0, .int .i64 0, .int .i64 0, .string ⟨#[]⟩, .string ⟨#[]⟩] 28)).alloc (.cells #[.int .i64 (1 + (K : Int) % 8), .int .i64 0, .int .i64 0, .string ⟨#[]⟩, .string ⟨#[]⟩] 28)) = w1 at *
  clear n0 n1 n2 n3 n4
  have HWd := Lib.hid HW.out.drew
  have HW1 := Lib.hid (HWd.out.set1 ((T : Int) % 1000001))
  obtain ⟨n0, n1, n2, n3, n4⟩ := HWd.out.num
  obtain ⟨⟨v0, v1, v2, v3, v4⟩, vf⟩ := HWd.out.var
  have vf1 := vf 1
  have x2 : (w1.setCell ⟨w.heap.size + 1 + 1, 1, none⟩ (.int .i64 ((T : Int) % 1000001))).drew.cell? ⟨w.heap.size + 1 + 1, 2, none⟩ = some (.int .i64 0) := HW1.out.var.1.2.2.1
  have xf2 : (w1.setCell ⟨w.heap.size + 1 + 1, 1, none⟩ (.int .i64 ((T : Int) % 1000001))).drew.frozen? ⟨w.heap.size + 1 + 1, 2, none⟩ = false := HW1.out.var.2 2
  have x1 : (w1.setCell ⟨w.heap.size + 1 + 1, 1, none⟩ (.int .i64 ((T : Int) % 1000001))).drew.cell? ⟨w.heap.size, 1, none⟩ = some (.int .u8 Y) := HW1.out.num.2.1
  clear vf
  go_region
  all_goals
    have HW2 : Hid (MadeW w ((w1.setCell ⟨w.heap.size + 1 + 1, 1, none⟩ (.int .i64 ((T : Int) % 1000001))).setCell ⟨w.heap.size + 1 + 1, 2, none⟩ (.int .i64 ((Y : Int) % 2))).drew K Y Q T u (1 + (K : Int) % 8) ((T : Int) % 1000001) ((Y : Int) % 2) ⟨#[]⟩ ⟨#[]⟩) := Lib.hid (HW1.out.set2 ((Y : Int) % 2))
    clear HW HWd HW1 n0 n1 n2 n3 n4 v0 v1 v2 v3 v4 vf1 x1 x2 xf2
    generalize ((w1.setCell ⟨w.heap.size + 1 + 1, 1, none⟩ (.int .i64 ((T : Int) % 1000001))).setCell ⟨w.heap.size + 1 + 1, 2, none⟩ (.int .i64 ((Y : Int) % 2))).drew = w2 at *
    obtain ⟨L, hL⟩ : ∃ L, keepM Y Q T = L := ⟨_, rfl⟩
    have hlen : L.length = 1 + Q % 34 := by rw [← hL, keepM_len]
    have HG : Hid (∀ i, i < 1 + Q % 34 → L.getD i 0 = (((i * Y + T % 97) % 8193 : Nat) : Int)) := by
      show ∀ i, _
      intro i hi
      rw [← hL]
      exact keepM_get Y Q T i hi
    rw [hL] at HJ0
    obtain ⟨N, hN⟩ : ∃ N, 1 + Q % 34 = N := ⟨_, rfl⟩
    rw [hN] at hlen HG
    have HL := Lib.hid hlen
    have hN1 : 1 ≤ N := by omega
    have hN2 : N ≤ 34 := by omega
    clear hL hlen
    have h00 : Hid (w2.ownsRow w2.heap.size 9 1 (.slice none 0 0) 0 (strCellsL (keepW (L.take 0)))) := World.ownsRow_nil _ _ _ _
    obtain ⟨n0, n1, n2, n3, n4⟩ := HW2.out.num
    go_wp2_with fail
    clear n0 n1 n2 n3 n4
    go_loopw [4, 61] (fun vo vi wr => ∃ (i : Nat) (u : Value), i ≤ N ∧ vi = .int .i64 i ∧ u = vo ∧ Hid (wr.ownsRow w2.heap.size 9 1 u i (strCellsL (keepW (L.take i)))) ∧ Below w2.heap.size w2 wr) (fun _ vi _ => N - (intOf vi).toNat)
    case atStart => exact ⟨0, _, Nat.zero_le _, rfl, rfl, h00, Below.refl _ _⟩
    case round =>
      clear h00
      obtain ⟨i, vo, hi, rfl, rfl, hr, c3⟩ := hrel
      by_cases hlt : i < N
      · obtain ⟨n0, n1, n2, n3, n4⟩ := HW2.out.num.below c3
        have hsn := keepW_snoc L i (by have := HL.out; omega)
        have hg := HG.out i hlt
        have hmul : (i : Int) * (Y : Int) = ((i * Y : Nat) : Int) := by push_cast; rfl
        have hP : i * Y ≤ 34 * 255 := Nat.mul_le_mul (by omega) (by omega)
        obtain ⟨P, hPe⟩ : ∃ P, i * Y = P := ⟨_, rfl⟩
        rw [hPe] at hg hmul hP
        clear hPe
        obtain ⟨k, hk⟩ : ∃ k, L.getD i 0 = k := ⟨_, rfl⟩
        rw [hk] at hsn hg
        obtain ⟨D, hD⟩ : ∃ D, dB k = D := ⟨_, rfl⟩
        rw [hD] at hsn
        have HD := Lib.hid hD
        have HSn := Lib.hid hsn
        have HK := Lib.hid hg
        clear hsn hk hD hg
        have hke : ((P : Int) + (T : Int) % 97) % 8193 = k := by
          rw [HK.out]
          push_cast
          rfl
        have hk0 : 0 ≤ k ∧ k ≤ 8192 := by omega
        have HKB := Lib.hid hk0
        clear hk0
        go_wp2_with fail
        rw [hke]
        refine (itoa_is k HKB.out.1 (by have := HKB.out.2; omega) D HD.out _ (HTB.out.below (HW2.out.bel.trans (c3.mono HW2.out.bel.size)))).mono ?_
        rintro e w3 ⟨rfl, b1⟩
        have hr3 := Lib.hid (own_below hr.out b1)
        have c4 := c3.trans (b1.mono c3.size)
        clear hr b1 c3 n0 n1 n2 n3 n4 hmul hke
        go_wp2_with (at_builtin; refine wpList_append_own _ rfl (.tmp 64) (.tmp 77) 50 rfl w2.heap.size 9 i0 (.string ⟨#[]⟩) 1 16 Tryz.underlying50 hi0 hz0 hz1 hz2 rfl (by decide) _ _ _ rfl (hr3.out.alloc _) ⟨w3.heap.size, 0, none⟩ 1 1 [.string D] rfl rfl (cell_one_new _ _ _) (fun q hq => by simp at hq; subst hq; rfl) (by unfold maxLen; omega) (by omega) (by have := c4.size; simp; omega) ?_)
        intro v' w4 hown hgrow _
        have HR2 : Hid (w4.ownsRow w2.heap.size 9 1 v' (i + 1) (strCellsL (keepW (L.take (i + 1))))) := by
          show World.ownsRow _ _ _ _ _ _ _
          rw [HSn.out, ← strCellsL_snoc]
          exact hown
        have c5 : Below w2.heap.size w2 w4 := (c4.alloc c4.size _).grown hgrow (by have := c4.size; simp; omega) (fun k hk => (hr3.out.lt k hk).1)
        clear hown hgrow hr3 c4
        go_wp2_with fail
        go_roundw
        case rel => exact ⟨i + 1, _, by omega, by go_num, rfl, HR2, c5⟩
        case measure => simp [intOf]; omega
      · obtain rfl : i = N := by omega
        clear hlt hi
        rw [List.take_of_length_le (by have := HL.out; omega)] at hr
        have hsJ : J.size ≤ 8 * 34 := by
          rw [← HJ0.out, pack_size]
          refine keepT_len L 34 (fun k hk => ?_) (by have := HL.out; omega)
          obtain ⟨j, hj, rfl⟩ := List.getElem_of_mem hk
          have := HG.out j (by have := HL.out; omega)
          rw [List.getD, List.getElem?_eq_getElem hj] at this
          simp only [Option.getD_some] at this
          omega
        have HJ : Hid (Lib.join ((keepW L).map (·.data.toList)) (⟨#[44]⟩ : ByteArray).data.toList = J.data.toList) := by
          show _ = _
          rw [keepW_data, ← HJ0.out, pack_data]
          rfl
        obtain ⟨g, cp, hvo⟩ : ∃ g cp, vo = .slice (some ⟨g, 0, none⟩) i cp := by
          rcases hr.out.2 with ⟨he, h0⟩ | ⟨g, cap, cur, he, _⟩
          · omega
          · exact ⟨g, cap, he⟩
        subst hvo
        go_wp2_with fail
        refine (join_is (keepW L) i (by unfold keepW; rw [List.length_map]; exact HL.out) J ⟨#[44]⟩ HJ.out (by omega) (by omega) w2.heap.size g cp _ hr.out (by omega)).mono ?_
        rintro e w4 ⟨rfl, b1⟩
        have c5 := c3.trans (b1.mono c3.size)
        clear b1 c3 hr
        have HW := Lib.hid (HW2.out.below c5)
        clear HW2 c5
        obtain ⟨n0, n1, n2, n3, n4⟩ := HW.out.num
        obtain ⟨⟨r0, r1, r2, r3, r4⟩, rf⟩ := HW.out.res
        obtain ⟨⟨v0, v1, v2, v3, v4⟩, vf⟩ := HW.out.var
        have rf0 := rf 0
        have rf1 := rf 1
        have rf2 := rf 2
        have rf3 := rf 3
        have rf4 := rf 4
        have vf0 := vf 0
        have vf1 := vf 1
        have vf2 := vf 2
        have vf3 := vf 3
        have vf4 := vf 4
        clear rf vf
        go_upto_region 19 with fail
        replace HW := Lib.hid (HW.out.set4 J)
        clear n0 n1 n2 n3 n4 r0 r1 r2 r3 r4 v0 v1 v2 v3 v4 rf0 rf1 rf2 rf3 rf4 vf0 vf1 vf2 vf3 vf4
        obtain ⟨n0, n1, n2, n3, n4⟩ := HW.out.num
        obtain ⟨⟨r0, r1, r2, r3, r4⟩, rf⟩ := HW.out.res
        obtain ⟨⟨v0, v1, v2, v3, v4⟩, vf⟩ := HW.out.var
        have rf0 := rf 0
        have rf1 := rf 1
        have rf2 := rf 2
        have rf3 := rf 3
        have rf4 := rf 4
        have vf0 := vf 0
        have vf1 := vf 1
        have vf2 := vf 2
        have vf3 := vf 3
        have vf4 := vf 4
        clear rf vf
        go_wp2_with fail
        exact bodyPost_ret (results_o rfl _ _ (w.heap.size + 1) (1 + (K : Int) % 8) ((T : Int) % 1000001) ((Y : Int) % 2) ⟨#[]⟩ J (set5_at HW.out.res _ _ _ _ _) rfl) rfl ⟨rfl, set5_below HW.out.bel (by omega) _ _ _ _ _⟩
end Go.Proofs.YtlmbcclggaflaaaGreatDoor
namespace Go.Proofs.YtlmbcclggaflaaaGreatDoor
open Go Go.RowKit Go.ChangeShapes Go.WideShapes Go.ChangeAt

/-- The numbers' ranges. -/
def numOK (K Y Q T : Nat) : Prop := K < 256 ∧ Y < 256 ∧ Q < 256 ∧ T < 4294967296
theorem made_is (K Y Q T : Nat) (hn : numOK K Y Q T) (u : Value) (l : List UInt8) (w : World) (hu : BytesAt w u l) (ht : Tab w) (k a b : Int) (x v : ByteArray) (ho : madeO K Y Q T l = ⟨k, a, b, x, v⟩) :
    Calls Tryz.prog 13 #[numV K Y Q T u] w fun e w' => e = .returned (opA k a b x v) ∧ Below w.heap.size w w' := by
  obtain ⟨hK, hY, hQ, hT⟩ := hn
  have hk : (k : Int) = 1 + (K : Int) % 8 := by
    have := madeO_kind K Y Q T l
    rw [ho] at this
    have e : k = ((1 + K % 8 : Nat) : Int) := this
    omega
  unfold madeO at ho
  by_cases h0 : K % 8 = 0
  · rw [if_pos h0] at ho
    injection ho with e1 e2 e3 e4 e5
    have h := made_put K Y Q T hK (Y % 6) rfl h0 u l w hu
    rw [hk, ← e2, ← e3, ← e4, ← e5]
    exact h
  rw [if_neg h0] at ho
  by_cases h1 : K % 8 = 1
  · rw [if_pos h1] at ho
    injection ho with e1 e2 e3 e4 e5
    have h := made_key K Y Q T hK (Y % 6) rfl (Or.inl h1) u w
    rw [hk, ← e2, ← e3, ← e4, ← e5]
    exact h
  rw [if_neg h1] at ho
  by_cases h2 : K % 8 = 2
  · rw [if_pos h2] at ho
    injection ho with e1 e2 e3 e4 e5
    have h := made_key K Y Q T hK (Y % 6) rfl (Or.inr h2) u w
    rw [hk, ← e2, ← e3, ← e4, ← e5]
    exact h
  rw [if_neg h2] at ho
  by_cases h5 : K % 8 = 5
  · rw [if_pos h5] at ho
    injection ho with e1 e2 e3 e4 e5
    have h := made_policy K Y Q T hK hY h5 u w
    rw [show (1 + (Y : Int) % 2) = ((1 + Y % 2 : Nat) : Int) by push_cast; rfl] at h
    rw [hk, ← e2, ← e3, ← e4, ← e5]
    exact h
  rw [if_neg h5] at ho
  by_cases h6 : K % 8 = 6
  · rw [if_pos h6] at ho
    injection ho with e1 e2 e3 e4 e5
    have h := made_crash K Y Q T hK hY hQ hT h6 u w ht _ rfl
    rw [show ((T : Int) % 1000001) = ((T % 1000001 : Nat) : Int) by omega, show ((Y : Int) % 2) = ((Y % 2 : Nat) : Int) by omega] at h
    rw [hk, ← e2, ← e3, ← e4, ← e5]
    exact h
  rw [if_neg h6] at ho
  injection ho with e1 e2 e3 e4 e5
  have h := made_rest K Y Q T hK (by omega) u w
  rw [hk, ← e2, ← e3, ← e4, ← e5]
  exact h
theorem cellsU8n : Tryz.prog.cellsOf 5 = 1 := by kernel_rfl
theorem cellsU32n : Tryz.prog.cellsOf 22 = 1 := by kernel_rfl
theorem cellsBytesn : Tryz.prog.cellsOf 23 = 1 := by kernel_rfl
theorem cellsNum : Tryz.prog.cellsOf 25 = 5 := by kernel_rfl
set_option maxRecDepth 100000 in
theorem num_of_trod {H : Type} {enc : TypeId × Value → H} {W : World} {held : Bool} {fuel : Nat} {cs : List Value} {x : DataW H × List MemPlace} (h : DataW.trod enc Tryz.prog W 0 (fun _ => true) held fuel 25 cs = some x) (hh : held = true) :
    ∃ K Y Q T u l, cs = [.int .u8 (K : Nat), .int .u8 (Y : Nat), .int .u8 (Q : Nat), .int .u32 (T : Nat), u] ∧ numOK K Y Q T ∧ BytesAt W u l := by
  subst hh
  obtain ⟨xs, n, _, hx1, hl, hlen, hfld⟩ := DataW.trod_struct Tryz.underlying25 h
  have hc5 : ∃ c0 c1 c2 c3 c4, cs = [c0, c1, c2, c3, c4] := by
    have hs := hl.trans cellsNum
    match cs, hs with
    | [c0, c1, c2, c3, c4], _ => exact ⟨c0, c1, c2, c3, c4, rfl⟩
  obtain ⟨c0, c1, c2, c3, c4, rfl⟩ := hc5
  have hx5 : ∃ y0 y1 y2 y3 y4, xs = [y0, y1, y2, y3, y4] := by
    match xs, hlen with
    | [y0, y1, y2, y3, y4], _ => exact ⟨y0, y1, y2, y3, y4, rfl⟩
  obtain ⟨y0, y1, y2, y3, y4, rfl⟩ := hx5
  have one : ∀ (f : Field) (T : TypeId) (c : Value) (y : DataW H × List MemPlace), DataW.trod enc Tryz.prog W 0 (fun _ => true) true n f.type ((([c0, c1, c2, c3, c4] : List Value).drop f.offset).take (Tryz.prog.cellsOf f.type)) = some y →
      f.type = T → Tryz.prog.cellsOf T = 1 → (([c0, c1, c2, c3, c4] : List Value).drop f.offset).take 1 = [c] → DataW.trod enc Tryz.prog W 0 (fun _ => true) true n T [c] = some y := by
    intro f T c y h1 ht hc hd
    rw [ht, hc, hd] at h1
    exact h1
  have e0 := one _ 5 c0 y0 (hfld 0 _ rfl) rfl cellsU8n rfl
  have e1 := one _ 5 c1 y1 (hfld 1 _ rfl) rfl cellsU8n rfl
  have e2 := one _ 5 c2 y2 (hfld 2 _ rfl) rfl cellsU8n rfl
  have e3 := one _ 22 c3 y3 (hfld 3 _ rfl) rfl cellsU32n rfl
  have e4 := one _ 23 c4 y4 (hfld 4 _ rfl) rfl cellsBytesn rfl
  obtain ⟨z0, h0, _, w0⟩ := DataW.trod_int Tryz.underlying5 e0
  obtain ⟨z1, h1, _, w1⟩ := DataW.trod_int Tryz.underlying5 e1
  obtain ⟨z2, h2, _, w2⟩ := DataW.trod_int Tryz.underlying5 e2
  obtain ⟨z3, h3, _, w3⟩ := DataW.trod_int Tryz.underlying22 e3
  injection h0 with h0
  injection h1 with h1
  injection h2 with h2
  injection h3 with h3
  have hsl : ∃ a len cap, c4 = .slice a len cap := by
    rcases open_ints Tryz.underlying23 Tryz.underlying5 cellsU8n e4 with ⟨hcs, _⟩ | ⟨a, len, cap, zs, hcs, _⟩
    · exact ⟨none, 0, 0, by injection hcs⟩
    · exact ⟨some a, len, cap, by injection hcs⟩
  have hcs4 : [c4] = c4.cells.toList := by
    obtain ⟨a, len, cap, rfl⟩ := hsl
    rfl
  obtain ⟨l, hl4⟩ := open_bytes (v := c4) ⟨n, by rw [← hcs4]; exact e4⟩ hsl
  subst h0 h1 h2 h3
  have r1 : IntKind.u8.min = 0 := rfl
  have r2 : IntKind.u8.max = 255 := rfl
  have r3 : IntKind.u32.min = 0 := rfl
  have r4 : IntKind.u32.max = 4294967295 := rfl
  have g0 : 0 ≤ z0 ∧ z0 ≤ 255 := by simpa [Lit.wf, r1, r2] using w0
  have g1 : 0 ≤ z1 ∧ z1 ≤ 255 := by simpa [Lit.wf, r1, r2] using w1
  have g2 : 0 ≤ z2 ∧ z2 ≤ 255 := by simpa [Lit.wf, r1, r2] using w2
  have g3 : 0 ≤ z3 ∧ z3 ≤ 4294967295 := by simpa [Lit.wf, r3, r4] using w3
  have t0 : ((z0.toNat : Nat) : Int) = z0 := by omega
  have t1 : ((z1.toNat : Nat) : Int) = z1 := by omega
  have t2 : ((z2.toNat : Nat) : Int) = z2 := by omega
  have t3 : ((z3.toNat : Nat) : Int) = z3 := by omega
  refine ⟨z0.toNat, z1.toNat, z2.toNat, z3.toNat, c4, l, by rw [t0, t1, t2, t3], ⟨by omega, by omega, by omega, by omega⟩, hl4⟩
set_option maxRecDepth 100000 in
theorem open_num {H : Type} {enc : TypeId × Value → H} {W : World} {b0 : Nat} {v : Value} {d : DataW H} {ps : List MemPlace} (h : DataW.Trod enc Tryz.prog W 0 (fun _ => true) true 25 v d ps)
    (hv : Value.okWide Tryz.prog W .any b0 25 v) : ∃ K Y Q T u l, v = numV K Y Q T u ∧ numOK K Y Q T ∧ BytesAt W u l := by
  obtain ⟨cs, rfl, _⟩ := okWide_struct Tryz.underlying25 hv
  obtain ⟨fuel, hf⟩ := h
  obtain ⟨K, Y, Q, T, u, l, hcs, hr, hb⟩ := num_of_trod hf rfl
  have hcs' : cs = #[.int .u8 K, .int .u8 Y, .int .u8 Q, .int .u32 T, u] := by
    apply Array.ext'
    exact hcs
  subst hcs'
  exact ⟨K, Y, Q, T, u, l, rfl, hr, hb⟩
end Go.Proofs.YtlmbcclggaflaaaGreatDoor
namespace Go.Proofs.YtlmbcclggaflaaaGreatDoor
open Go Go.RowKit

theorem keyM_len (n : Nat) : (keyM n).length ≤ 32 := by
  unfold keyM
  repeat' split
  all_goals decide
theorem made_size (K Y Q T : Nat) (l : List UInt8) (k a b : Int) (x v : ByteArray) (ho : madeO K Y Q T l = ⟨k, a, b, x, v⟩) : (0 ≤ a ∧ a ≤ 1000000) ∧ x.size ≤ 32 ∧ v.size ≤ 512 := by
  have hkl := keyM_len (Y % 6)
  have hj : (keepT (keepM Y Q T)).length ≤ 8 * 34 := keepT_len _ 34 (fun k hk => by have := keepM_mem hk; omega) (by rw [keepM_len]; omega)
  have ht : (l.take 512).length ≤ 512 := by rw [List.length_take]; omega
  have e0 : eB.size = 0 := rfl
  unfold madeO at ho
  repeat' split at ho
  all_goals
    injection ho with e1 e2 e3 e4 e5
    subst e1 e2 e3 e4 e5
    simp only [pack_size, e0]
    omega
theorem made_fit (K Y Q T : Nat) (l : List UInt8) (k a b : Int) (x v : ByteArray) (ho : madeO K Y Q T l = ⟨k, a, b, x, v⟩) : opFit ⟨k, a, b, x, v⟩ := by
  obtain ⟨h1, h2, h3⟩ := made_size K Y Q T l k a b x v ho
  refine ⟨⟨?_, ?_⟩, ?_, ?_⟩
  · show _ ≤ a; omega
  · show a ≤ _; omega
  · show x.size ≤ _; omega
  · show v.size ≤ _; omega
theorem made_op (K Y Q T : Nat) (l : List UInt8) : ∃ k a b x v, madeO K Y Q T l = ⟨k, a, b, x, v⟩ ∧ opGood ⟨k, a, b, x, v⟩ ∧ opFit ⟨k, a, b, x, v⟩ := by
  have h := made_good K Y Q T l
  cases he : madeO K Y Q T l with
  | mk k a b x v =>
    rw [he] at h
    exact ⟨k, a, b, x, v, rfl, h, made_fit K Y Q T l k a b x v he⟩
end Go.Proofs.YtlmbcclggaflaaaGreatDoor
namespace Go.Proofs.YtlmbcclggaflaaaGreatDoor
open Go Go.RowKit

theorem keepT_no118 (L : List Int) : (118 : UInt8) ∉ keepT L := by
  unfold keepT
  refine join_no _ _ _ (by decide) fun x hx => ?_
  rw [List.mem_map] at hx
  obtain ⟨k, _, rfl⟩ := hx
  exact dS_no k 118 (by decide)
theorem flaw_kind {k a b : Int} {x v : ByteArray} (h : k < 1 ∨ 8 < k) : ¬ opGood ⟨k, a, b, x, v⟩ := fun hg => by
  have h1 : 1 ≤ k ∧ k ≤ 8 := good_kind hg
  omega
theorem flaw_a {k a b : Int} {x v : ByteArray} (h : a < 0 ∨ 1000000 < a) : ¬ opGood ⟨k, a, b, x, v⟩ := fun hg => by
  rcases hg with ⟨_, h1, _⟩ | ⟨_, h1, _⟩ | ⟨_, h1, _⟩ | ⟨_, h1, _⟩ | ⟨_, _, _, L, hp, _⟩
  · have h2 : a = 0 := h1; omega
  · have h2 : a = 0 := h1; omega
  · have h2 : a = 0 := h1; omega
  · have h2 : a = 1 ∨ a = 2 := h1; omega
  · have h2 : 0 ≤ a ∧ a ≤ 1000000 := ⟨(planOK_parts hp).1, (planOK_parts hp).2.1⟩
    omega
theorem flaw_b {k a b : Int} {x v : ByteArray} (h : b < 0 ∨ 1 < b) : ¬ opGood ⟨k, a, b, x, v⟩ := fun hg => by
  rcases hg with ⟨_, _, h1, _⟩ | ⟨_, _, h1, _⟩ | ⟨_, _, h1, _⟩ | ⟨_, _, h1, _⟩ | ⟨_, h1, _⟩
  · have h2 : b = 0 := h1; omega
  · have h2 : b = 0 := h1; omega
  · have h2 : b = 0 := h1; omega
  · have h2 : b = 0 := h1; omega
  · have h2 : b = 0 ∨ b = 1 := h1; omega
theorem flaw_key {k a b : Int} {x v : ByteArray} (h : keyV x.data.toList ≠ 0) (h2 : x.size ≠ 0) : ¬ opGood ⟨k, a, b, x, v⟩ := fun hg => by
  have e0 : eB.size = 0 := rfl
  rcases hg with ⟨_, _, _, h1, _⟩ | ⟨_, _, _, h1, _⟩ | ⟨_, _, _, h1, _⟩ | ⟨_, _, _, h1, _⟩ | ⟨_, _, h1, _⟩
  · exact h h1
  · exact h h1
  · have h3 : x = eB := h1
    rw [h3] at h2
    exact h2 e0
  · have h3 : x = eB := h1
    rw [h3] at h2
    exact h2 e0
  · have h3 : x = eB := h1
    rw [h3] at h2
    exact h2 e0
theorem flaw_val {k a b : Int} {x v : ByteArray} (h : (118 : UInt8) ∈ v.data.toList) (h2 : k = 1 → 512 < v.size) : ¬ opGood ⟨k, a, b, x, v⟩ := fun hg => by
  have e0 : v = eB → False := fun e => by
    rw [e] at h
    revert h
    decide
  rcases hg with ⟨hk, _, _, _, h1⟩ | ⟨_, _, _, _, h1⟩ | ⟨_, _, _, _, h1⟩ | ⟨_, _, _, _, h1⟩ | ⟨_, _, _, L, _, h1⟩
  · have h3 : v.size ≤ 512 := h1
    have := h2 hk
    omega
  · exact e0 h1
  · exact e0 h1
  · exact e0 h1
  · have h3 : v.data.toList = keepT L := h1
    rw [h3] at h
    exact keepT_no118 L h
theorem rep_size (c : UInt8) (n : Nat) : (⟨(Lib.repeatL [c] n).toArray⟩ : ByteArray).size = n := by
  show (Lib.repeatL [c] n).toArray.size = n
  rw [List.size_toArray, Lib.repeatL_length]
  simp
theorem rep_mem (c : UInt8) (n : Nat) (h : 0 < n) : c ∈ (⟨(Lib.repeatL [c] n).toArray⟩ : ByteArray).data.toList := by
  obtain ⟨m, rfl⟩ : ∃ m, n = m + 1 := ⟨n - 1, by omega⟩
  show c ∈ (Lib.repeatL [c] (m + 1)).toArray.toList
  simp [Lib.repeatL]
theorem rep_key (n : Nat) (h : 32 < n) : keyV (⟨(Lib.repeatL [107] n).toArray⟩ : ByteArray).data.toList ≠ 0 := fun e => by
  have h1 := key_len e
  have h2 : (Lib.repeatL [107] n).toArray.toList.length ≤ 32 := h1
  rw [List.toList_toArray, Lib.repeatL_length] at h2
  simp at h2
  omega
end Go.Proofs.YtlmbcclggaflaaaGreatDoor
