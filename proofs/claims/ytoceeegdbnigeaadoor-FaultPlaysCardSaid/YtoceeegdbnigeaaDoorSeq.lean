/-
  What strings.SplitSeq hands out: the pieces of a string, one round each.
  Conditions: none.
-/
import Derived.Test.YtoceeegdbnigeaaDoorPan
import Derived.Test.YtoceeegdbnigeaaDoorPc
import Derived.Test.YtoceeegdbnigeaaDoorMem
import Derived.Test.YtoceeegdbnigeaaDoorShelf
import Derived.Test.YtoceeegdbnigeaaDoorProg
import Derived.TacticsInMore
import Derived.LoopNIn
import Derived.LoopIn
import Derived.OwnWalkIn
import Derived.Shelf.Abstract
import Derived.Shelf.RegionOpen
import Derived.Lib.Hide
set_option linter.unusedVariables false
namespace Go.Proofs.YtoceeegdbnigeaaDoor
open Go Go.RowKit Go.Shelf
attribute [local go_sem] Oper.semAt_some

/-- The three boxes of the iterator. -/
def Boxes (B : Nat) (d : UInt8) (r : ByteArray) (w : World) : Prop :=
  w.heap[B]? = some (.cells #[.string r] 9 (0, 0)) ∧ w.heap[B + 1]? = some (.cells #[.string ⟨#[d]⟩] 9 (0, 0)) ∧ w.heap[B + 2]? = some (.cells #[.int .i64 0] 3 (0, 0))
theorem Boxes.keep {B : Nat} {d : UInt8} {r : ByteArray} {w w' : World} (h : Boxes B d r w) (hk : KeepsBox B w w') : Boxes B d r w' :=
  ⟨(hk B (Nat.le_refl _) (by omega)).trans h.1, (hk (B + 1) (by omega) (by omega)).trans h.2.1, (hk (B + 2) (by omega) (by omega)).trans h.2.2⟩
theorem Boxes.set {B : Nat} {d : UInt8} {r : ByteArray} {w : World} (h : Boxes B d r w) (r' : ByteArray) : Boxes B d r' (w.setCell ⟨B, 0, none⟩ (.string r')) :=
  ⟨heap_setCell_same w B 0 #[.string r] 9 (.string r') h.1, (Below.heap_setCell _ _ _ _ (by show B + 1 ≠ B; omega)).trans h.2.1, (Below.heap_setCell _ _ _ _ (by show B + 2 ≠ B; omega)).trans h.2.2⟩
theorem Boxes.cells {B : Nat} {d : UInt8} {r : ByteArray} {w : World} (h : Boxes B d r w) : w.cell? ⟨B, 0, none⟩ = some (.string r) ∧ w.cell? ⟨B + 1, 0, none⟩ = some (.string ⟨#[d]⟩) ∧ w.cell? ⟨B + 2, 0, none⟩ = some (.int .i64 0) ∧ w.frozen? ⟨B, 0, none⟩ = false :=
  ⟨by rw [Lib.cell_of_heap h.1]; rfl, by rw [Lib.cell_of_heap h.2.1]; rfl, by rw [Lib.cell_of_heap h.2.2]; rfl, Lib.frozen_of_heap h.1 0⟩
theorem grown_set (w : World) (B j : Nat) (v : Value) : w.grownBy (w.setCell ⟨B, j, none⟩ v) (some B) :=
  ⟨rfl, rfl, rfl, by show w.heap.size ≤ (w.heap.modify _ _).size; rw [Array.size_modify]; exact Nat.le_refl _, fun k hk hne => Below.heap_setCell w ⟨B, j, none⟩ v k (fun e => hne (by rw [e]))⟩
/-- How much is left. -/
def leftOf (B : Nat) (w : World) : Nat := match w.cell? ⟨B, 0, none⟩ with
  | some (.string r) => r.size
  | _ => 0
theorem leftOf_eq {B : Nat} {w : World} {r : ByteArray} (h : w.cell? ⟨B, 0, none⟩ = some (.string r)) : leftOf B w = r.size := by unfold leftOf; rw [h]
theorem seq_mid {d : UInt8} {xs : List (List UInt8)} {k : Nat} {x r : List UInt8} (h : xs.drop k = pc d (x ++ d :: r)) (hx : d ∉ x) : xs.getD k [] = x ∧ xs.drop (k + 1) = pc d r ∧ k < xs.length := by
  rw [pc_app x r hx] at h
  have hk : k < xs.length := by
    refine Nat.lt_of_not_le fun hle => ?_
    rw [List.drop_eq_nil_of_le hle] at h
    cases h
  rw [List.drop_eq_getElem_cons hk] at h
  injection h with h1 h2
  exact ⟨by rw [List.getD, List.getElem?_eq_getElem hk]; exact h1, h2, hk⟩
theorem seq_last {d : UInt8} {xs : List (List UInt8)} {k : Nat} {x : List UInt8} (h : xs.drop k = pc d x) (hx : d ∉ x) : xs.getD k [] = x ∧ k + 1 = xs.length := by
  rw [pc_word x hx] at h
  have hk : k < xs.length := by
    refine Nat.lt_of_not_le fun hle => ?_
    rw [List.drop_eq_nil_of_le hle] at h
    cases h
  have hl := congrArg List.length h
  rw [List.length_drop] at hl
  rw [List.drop_eq_getElem_cons hk] at h
  injection h with h1 h2
  exact ⟨by rw [List.getD, List.getElem?_eq_getElem hk]; exact h1, by simp at hl; omega⟩

set_option maxRecDepth 100000 in
set_option maxHeartbeats 4000000 in
/-- The pieces come one by one. -/
theorem seq_box (d : UInt8) (s : ByteArray) (hs : s.size ≤ 1000000) (B : Nat) :
    SeqBox Tryd.prog 80 #[.pointer (some ⟨B + 1, 0, none⟩), .pointer (some ⟨B, 0, none⟩), .pointer (some ⟨B + 2, 0, none⟩)] (pcS d s) B (Boxes B d s) := by
  intro l J Jx Jp W hW hJ hY h0
  refine callsIn_of_wp Tryd.func80 rfl trivial ?_ rfl
  simp only [Tryd.ntmps80, List.size_toArray, List.length_cons, List.length_nil, Nat.reduceAdd, Nat.reduceSub, Array.replicate_succ, Array.replicate_zero, List.push_toArray, List.append_toArray, List.nil_append, List.cons_append]
  have HB := Lib.hid hW
  obtain ⟨b1, b2, b3, b4⟩ := hW.cells
  have HY := Lib.hid hY
  have HJ := Lib.hid hJ
  have H0 := Lib.hid h0
  clear hW hJ hY h0
  gi_wp2
  clear b1 b2 b3 b4
  gi_loopw [] (fun wr => ∃ (k : Nat) (r : ByteArray), Hid (Boxes B d r wr) ∧ Hid (J k wr) ∧ Hid ((pc d s.data.toList).drop k = pc d r.data.toList) ∧ r.size ≤ 1000000) (fun wr => leftOf B wr)
  case atStart => exact ⟨0, s, HB, H0, rfl, hs⟩
  case round =>
    clear HB H0
    obtain ⟨k, r, hb, hj, hd, hr⟩ := hrel
    obtain ⟨b1, b2, b3, b4⟩ := hb.out.cells
    have hleft := Lib.hid (leftOf_eq b1)
    have hix := Tryd.strings_Index_one r d wr
    rcases pc_cut (d := d) r.data.toList with hn | ⟨x, q, hxq, hn⟩
    · rw [ib_miss _ hn] at hix
      have HIX := Lib.hid hix
      obtain ⟨g1, g2⟩ := seq_last hd.out hn
      obtain ⟨fn, tmps, assign, body, hy, hR⟩ := HY.out k wr hj.out (by rw [pcS_len]; omega)
      have hg : (pcS d s).getD k ⟨#[]⟩ = r := by rw [pcS_getD, g1, data_pack]
      rw [hg] at hy
      have HE : Hid (k + 1 = (pcS d s).length) := by show _ = _; rw [pcS_len]; exact g2
      clear g1 g2 hg hix hn hd
      gi_wp2
      refine ⟨trivial, rfl, (callsIn_wide.2 HIX.out).mono ?_⟩
      rintro e w1 ⟨rfl, rfl⟩
      gi_wp2
      refine ⟨rfl, hR.mono ?_⟩
      rintro e W2 (⟨rfl, hJ2, hk⟩ | ⟨rfl, hJx2⟩ | ⟨ch, rfl, hJp2⟩)
      · rw [HE.out] at hJ2
        gi_wp2
        go_end0
        exact Or.inl ⟨⟨_, rfl⟩, Or.inl hJ2⟩
      · gi_wp2
        go_end0
        exact Or.inl ⟨⟨_, rfl⟩, Or.inr hJx2⟩
      · exact ⟨rfl, Or.inr ⟨ch, rfl, hJp2⟩⟩
    · have hxl : x.length < r.size := by rw [← str_len, hxq]; simp
      rw [hxq, ib_hit _ _ hn] at hix
      have HIX := Lib.hid hix
      have hd2 := hd.out
      rw [hxq] at hd2
      obtain ⟨g1, g2, g3⟩ := seq_mid hd2 hn
      obtain ⟨fn, tmps, assign, body, hy, hR⟩ := HY.out k wr hj.out (by rw [pcS_len]; exact g3)
      have hg : (pcS d s).getD k ⟨#[]⟩ = pack x := by rw [pcS_getD, g1]
      rw [hg] at hy
      have e1 : r.extract 0 x.length = pack x := by
        rw [← data_pack (r.extract 0 x.length), Lib.extract_data, hxq]
        congr 1
        simp
      have e2 : r.extract (x.length + 1) r.size = pack q := by
        rw [← data_pack (r.extract (x.length + 1) r.size), Lib.extract_data, hxq]
        congr 1
        rw [← str_len, hxq]
        simp
        exact List.take_of_length_le (by omega)
      have ist : ∀ wx, (Instr.slice 9 (.string r) none (some (.int .i64 (x.length : Int))) none).run Tryd.prog wx = .ok (.string (pack x)) wx := fun wx => by
        rw [run_slice_string_h wx 9 r Tryd.underlying9 .i64 (x.length : Int) (by omega) (by omega), Int.toNat_natCast, e1]
      have isr : ∀ wx, (Instr.slice 9 (.string r) (some (.int .i64 ((x.length : Int) + 1))) none none).run Tryd.prog wx = .ok (.string (pack q)) wx := fun wx => by
        rw [run_slice_string_l wx 9 r Tryd.underlying9 .i64 ((x.length : Int) + 1) (by omega) (by omega), show ((x.length : Int) + 1).toNat = x.length + 1 by omega, e2]
      have hq : (pack q).size < r.size := by
        rw [pack_size, ← str_len, hxq]; simp; omega
      have HG2 : Hid ((pc d s.data.toList).drop (k + 1) = pc d (pack q).data.toList) := by show _ = _; rw [pack_data]; exact g2
      have HQ := Lib.hid hq
      have HR := Lib.hid hr
      obtain ⟨y, hy2⟩ : ∃ y, pack x = y := ⟨_, rfl⟩
      obtain ⟨z, hz2⟩ : ∃ z, pack q = z := ⟨_, rfl⟩
      obtain ⟨i, hi⟩ : ∃ i, x.length = i := ⟨_, rfl⟩
      rw [hi] at hix hxl ist isr HIX
      rw [hy2] at hy ist
      rw [hz2] at isr HG2 HQ
      clear g1 g2 g3 hg hix hn hd hd2 e1 e2 hxq hq hy2 hz2 hi
      gi_wp2
      refine ⟨trivial, rfl, (callsIn_wide.2 HIX.out).mono ?_⟩
      rintro e w1 ⟨rfl, rfl⟩
      gi_wp2
      refine ⟨rfl, hR.mono ?_⟩
      rintro e W2 (⟨rfl, hJ2, hk⟩ | ⟨rfl, hJx2⟩ | ⟨ch, rfl, hJp2⟩)
      · have hb2 := hb.out.keep hk
        obtain ⟨b1', b2', b3', b4'⟩ := hb2.cells
        have HB3 := Lib.hid (hb2.set z)
        have HJ3 := Lib.hid (HJ.out _ _ _ hJ2 (grown_set W2 B 0 (.string z)))
        clear hb2 hk hJ2 b1 b2 b3 b4
        have HBc := Lib.hid HB3.out.cells.1
        gi_wp2
        refine ⟨⟨k + 1, z, HB3, HJ3, HG2, by have := HQ.out; have := HR.out; omega⟩, ?_⟩
        rw [leftOf_eq HBc.out, hleft.out]
        exact HQ.out
      · gi_wp2
        refine bodyPost_ret (results_none rfl _ _ _) rfl ?_
        exact Or.inl ⟨⟨_, rfl⟩, Or.inr hJx2⟩
      · exact ⟨rfl, Or.inr ⟨ch, rfl, hJp2⟩⟩
end Go.Proofs.YtoceeegdbnigeaaDoor
