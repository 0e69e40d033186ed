/-
  What key's Next computes.
  Conditions: at most 2^40 bytes.
-/
import Derived.Test.YthmbcjladgnigaaDoorKeyN
import Derived.Lib.BufferWrite
set_option linter.unusedVariables false
namespace Go.Proofs.YthmbcjladgnigaaDoor
open Go Go.RowKit

/-- An array of 32 bytes into which a key was copied. -/
def copied (w : World) (l : List UInt8) : World := (w.alloc (.cells #[Value.int .u8 0, Value.int .u8 0, Value.int .u8 0, Value.int .u8 0, Value.int .u8 0, Value.int .u8 0, Value.int .u8 0, Value.int .u8 0, Value.int .u8 0, Value.int .u8 0, Value.int .u8 0, Value.int .u8 0, Value.int .u8 0, Value.int .u8 0, Value.int .u8 0, Value.int .u8 0, Value.int .u8 0, Value.int .u8 0, Value.int .u8 0, Value.int .u8 0, Value.int .u8 0, Value.int .u8 0, Value.int .u8 0, Value.int .u8 0, Value.int .u8 0, Value.int .u8 0, Value.int .u8 0, Value.int .u8 0, Value.int .u8 0, Value.int .u8 0, Value.int .u8 0, Value.int .u8 0] 48)).setRow w.heap.size (Lib.byteCells l).toArray
theorem copied_heap (w : World) (l : List UInt8) : (copied w l).heap[w.heap.size]? = some (.cells (Lib.byteCells l).toArray 48 (0, 0)) :=
  setRow_heap _ _ _ _ _ _ (heap_alloc_new w _)
theorem copied_below (w : World) (l : List UInt8) : Below w.heap.size w (copied w l) := by
  refine ⟨rfl, rfl, rfl, ?_, fun k hk => ?_⟩
  · show w.heap.size ≤ (World.setRow _ _ _).heap.size
    rw [setRow_size]; simp
  · show (World.setRow _ _ _).heap[k]? = _
    rw [setRow_other _ _ _ _ (by omega), Below.heap_alloc w _ k hk]
theorem copied_size (w : World) (l : List UInt8) : (copied w l).heap.size = w.heap.size + 1 := by
  show (World.setRow _ _ _).heap.size = _
  rw [setRow_size]; simp
theorem run_copied (s : ByteArray) (l : List UInt8) (hl : s.data.toList = l) (hs : s.size = 32) (w : World) :
    (Builtin.copy_ #[33, 9] 3 #[.slice (some ⟨w.heap.size, 0, none⟩) 32 32, .string s]).run Tryd.prog (w.alloc (.cells #[Value.int .u8 0, Value.int .u8 0, Value.int .u8 0, Value.int .u8 0, Value.int .u8 0, Value.int .u8 0, Value.int .u8 0, Value.int .u8 0, Value.int .u8 0, Value.int .u8 0, Value.int .u8 0, Value.int .u8 0, Value.int .u8 0, Value.int .u8 0, Value.int .u8 0, Value.int .u8 0, Value.int .u8 0, Value.int .u8 0, Value.int .u8 0, Value.int .u8 0, Value.int .u8 0, Value.int .u8 0, Value.int .u8 0, Value.int .u8 0, Value.int .u8 0, Value.int .u8 0, Value.int .u8 0, Value.int .u8 0, Value.int .u8 0, Value.int .u8 0, Value.int .u8 0, Value.int .u8 0] 48)) = .ok (.int .i64 32) (copied w l) := by
  have h := Lib.run_copy_row_string (P := Tryd.prog) (w.alloc (.cells #[Value.int .u8 0, Value.int .u8 0, Value.int .u8 0, Value.int .u8 0, Value.int .u8 0, Value.int .u8 0, Value.int .u8 0, Value.int .u8 0, Value.int .u8 0, Value.int .u8 0, Value.int .u8 0, Value.int .u8 0, Value.int .u8 0, Value.int .u8 0, Value.int .u8 0, Value.int .u8 0, Value.int .u8 0, Value.int .u8 0, Value.int .u8 0, Value.int .u8 0, Value.int .u8 0, Value.int .u8 0, Value.int .u8 0, Value.int .u8 0, Value.int .u8 0, Value.int .u8 0, Value.int .u8 0, Value.int .u8 0, Value.int .u8 0, Value.int .u8 0, Value.int .u8 0, Value.int .u8 0] 48)) 33 9 3 5 w.heap.size 0 32 32 s _ 48 Tryd.underlying33 (by kernel_rfl) (heap_alloc_new w _) (by omega) (by show 0 + s.size ≤ 32; omega)
  rw [h, hs]
  show Result.ok _ (World.setRow _ _ _) = Result.ok _ (World.setRow _ _ _)
  congr 2
  rw [hl]
  simp
theorem copied_cell (w : World) (l : List UInt8) (j : Nat) (hj : j < l.length) : (copied w l).cell? ⟨w.heap.size, j, none⟩ = some (.int .u8 ((l.getD j 0).toNat : Int)) := by
  rw [Lib.cell_of_heap (copied_heap w l)]
  rw [List.getElem?_toArray]
  unfold Lib.byteCells
  rw [List.getElem?_map, List.getD, List.getElem?_eq_getElem hj]
  rfl
/-- a[:m] of the array. -/
theorem run_arr_upto (a : Addr) (m : Nat) (h : m ≤ 32) (wx : World) :
    (Instr.sliceAt 48 (.pointer (some a)) none (some (.int .i64 (m : Int))) none).run Tryd.prog wx = .ok (.slice (some a) m 32) wx := by
  have hs : ∀ w, (Go.sizeOf 5).run Tryd.prog w = .ok 1 w := fun w => by kernel_rfl
  have he : Tryd.prog.elem 48 = 5 := by kernel_rfl
  have hn : Tryd.prog.arrayLen 48 = 32 := by kernel_rfl
  have ht : Tryd.prog.underlying 48 = some (.array (Tryd.prog.arrayLen 48) (Tryd.prog.elem 48)) := by rw [he, hn]; exact Tryd.underlying48
  rw [run_sliceAt_array_h wx 48 a ht .i64 (m : Int) (by omega) (by rw [hn]; omega), he, hs, hn]
  show Result.ok (slicedAt a 0 (m : Int).toNat 32 1) wx = _
  unfold slicedAt
  rw [if_neg (by decide), Nat.zero_mul]
  have ha : a.add 0 = a := by
    obtain ⟨b, o, sp⟩ := a
    unfold Addr.add
    split <;> simp_all
  rw [ha]
  rfl
/-- What is read behind the store. -/
theorem stored_bytes (w : World) (l : List UInt8) (n : Nat) (d : UInt8) (hn : n < l.length) (h32 : l.length = 32) :
    BytesAt ((copied w l).setCell ⟨w.heap.size, n, none⟩ (.int .u8 (d.toNat : Int))) (.slice (some ⟨w.heap.size, 0, none⟩) (n + 1) 32) (l.take n ++ [d]) := by
  have hl : (l.take n ++ [d]).length = n + 1 := by rw [List.length_append, List.length_take, List.length_singleton]; omega
  refine ⟨_, 32, by rw [hl], by rw [hl]; omega, fun _ => ⟨w.heap.size, 0, rfl, fun i hi => ?_⟩⟩
  rw [hl] at hi
  rw [Nat.zero_add]
  by_cases h : i = n
  · subst h
    rw [World.cell?_setCell_same (h := copied_cell w l i hn)]
    have : (l.take i ++ [d]).getD i 0 = d := by
      have e : (l.take i).length = i := by rw [List.length_take]; omega
      rw [List.getD, List.getElem?_append_right (by omega), e, Nat.sub_self]
      rfl
    rw [this]
  · rw [World.cell?_setCell_other (h := by intro he; cases he; exact h rfl), copied_cell w l i (by omega)]
    have : (l.take n ++ [d]).getD i 0 = l.getD i 0 := by
      rw [List.getD, List.getElem?_append_left (by rw [List.length_take]; omega), List.getElem?_take, if_pos (by omega), List.getD]
    rw [this]

set_option maxRecDepth 100000 in
set_option maxHeartbeats 2000000 in
theorem knext_any (s : ByteArray) (hz : s.size ≤ 1099511627776) (w : World) :
    Calls Tryd.prog 20 #[.string s] w fun e w' => e = .returned (.tuple #[.string ⟨(nextV s.data.toList).1.toArray⟩, .bool (nextV s.data.toList).2]) ∧ Below w.heap.size w w' := by
  have hlen : s.data.toList.length = s.size := str_len s
  by_cases hk : keyV s.data.toList = 0
  · have HK := Lib.hid hk
    obtain ⟨hall, hpos, h32⟩ := keyV_zero hk
    by_cases h1 : s.size < 32
    · have HN := Lib.hid (nextV_short hk (by omega))
      have d1 : decide ((s.size : Int) < 32) = true := by rw [decide_eq_true_iff]; omega
      have hst : (s ++ ⟨#[45]⟩ : ByteArray) = ⟨(s.data.toList ++ [45]).toArray⟩ := by rw [← str_append, str_back]
      have HST := Lib.hid hst
      have hs1 : (⟨#[45]⟩ : ByteArray).size = 1 := rfl
      have isl : ∀ wx, (Instr.slice 9 (.string keyS) none (some (.int .i64 1)) none).run Tryd.prog wx = .ok (.string ⟨#[45]⟩) wx := fun wx => by kernel_rfl
      clear hk hall hlen hst
      go_enter Tryd.func20, Tryd.ntmps20
      go_wp2_with fail
      refine (kcheck_any s hz _).mono ?_
      rw [HK.out]
      rintro e w' ⟨rfl, b1⟩
      go_wp2_with fail
      go_ret2
      exact ⟨by rw [HN.out, ← HST.out]; rfl, b1⟩
    · have d1 : decide ((s.size : Int) < 32) = false := by rw [decide_eq_false_iff_not]; omega
      have hs32 : s.size = 32 := by omega
      have HS := Lib.hid hs32
      have HL : Hid (s.data.toList.length = 32) := by show _ = _; omega
      have HA := Lib.hid hall
      clear hk hall hpos h32 h1 hlen
      go_enter Tryd.func20, Tryd.ntmps20
      go_wp2_with fail
      refine (kcheck_any s hz _).mono ?_
      rw [HK.out]
      rintro e w1 ⟨rfl, c1⟩
      obtain ⟨t1, t2, t3, t4⟩ := tn_spec s.data.toList
      rw [HL.out] at t1
      have hcp := run_copied s s.data.toList rfl HS.out w1
      have CC := Lib.hid (copied_cell w1 s.data.toList)
      have CB := Lib.hid (copied_below w1 s.data.toList)
      have CZ := Lib.hid (copied_size w1 s.data.toList)
      have CH := Lib.hid (copied_heap w1 s.data.toList)
      have CS := Lib.hid (stored_bytes w1 s.data.toList)
      have isl : ∀ wx, (Instr.slice 9 (.string keyS) (some (.int .i64 38)) none none).run Tryd.prog wx = .ok (.string ⟨#[122]⟩) wx := fun wx => by kernel_rfl
      obtain ⟨W2, hW2⟩ : ∃ W2, copied w1 s.data.toList = W2 := ⟨_, rfl⟩
      rw [hW2] at hcp CC CB CZ CH CS
      clear hW2
      obtain ⟨n, hn⟩ : ∃ n, tn s.data.toList = n := ⟨_, rfl⟩
      rw [hn] at t1 t2 t3 t4
      have HT := Lib.hid t4
      have hszT : (⟨(s.data.toList.take n).toArray⟩ : ByteArray).size = n := by rw [size_list, List.length_take, HL.out]; omega
      clear t2 t4
      by_cases h0 : n = 0
      · subst h0
        have HN := Lib.hid (nextV_last HK.out (by rw [HL.out]; omega) hn)
        clear t3 hn
        go_wp2_with fail
        refine (keeps (Tryd.strings_TrimRight_one s 122 (by decide) _ (by omega))).mono ?_
        rw [HT.out]
        rintro e w2 ⟨rfl, rfl⟩
        go_wp2_with fail
        go_ret2
        exact ⟨by rw [HN.out]; rfl, c1.trans (CB.out.mono c1.size)⟩
      · obtain ⟨i, rfl⟩ : ∃ i, n = i + 1 := ⟨n - 1, by omega⟩
        have h3 := t3 (by omega)
        rw [Nat.add_sub_cancel] at h3
        obtain ⟨c, hc⟩ : ∃ c, s.data.toList.getD i 0 = c := ⟨_, rfl⟩
        have hkc : isKey c = true := by rw [← hc]; exact all_get HA.out i (by have := HL.out; omega)
        rw [hc] at h3
        obtain ⟨f1, f2, f3, f4⟩ := isKey_facts hkc
        obtain ⟨q, hq⟩ : ∃ q : Nat, Lib.indexByte keyL c = (q : Int) := ⟨(Lib.indexByte keyL c).toNat, by unfold isKey at hkc; rw [decide_eq_true_iff] at hkc; omega⟩
        have HQ := Lib.hid hq
        rw [hq] at f2 f3 f4
        have h38 : q < 38 := by
          have : ¬ ((q : Int) = 38) := fun h => h3 (f3.1 h)
          omega
        have HN : Hid (nextV s.data.toList = (s.data.toList.take i ++ [keyL.getD (q + 1) 0], true)) := by
          show _ = _
          rw [nextV_succ HK.out (by have := HL.out; omega) (by rw [hn]; omega), hn, Nat.add_sub_cancel, hc]
          unfold succK
          rw [HQ.out, show ((q : Int) + 1).toNat = q + 1 by omega]
        obtain ⟨d, hd⟩ : ∃ d, keyL.getD (q + 1) 0 = d := ⟨_, rfl⟩
        rw [hd] at HN
        have i1 := run_str_at (P := Tryd.prog) keyS 9 Tryd.underlying9 .i64 ((q : Int) + 1) (q + 1) rfl (by show q + 1 < 39; omega) d hd.symm
        have hce := CC.out i (by rw [HL.out]; omega)
        rw [hc] at hce
        have hfz : W2.frozen? ⟨w1.heap.size, i, none⟩ = false := Lib.frozen_of_heap CH.out i
        have HS2 := Lib.hid (CS.out i d (by rw [HL.out]; omega) HL.out)
        have hcv := HS2.out.convert (P := Tryd.prog) 33 9 5 Tryd.underlying33 Tryd.underlying5 Tryd.underlying9
        have hsl := run_arr_upto ⟨w1.heap.size, 0, none⟩ (i + 1) (by omega)
        simp only [Int.natCast_add, Int.cast_ofNat_Int] at hsl
        clear f1 f2 f3 f4 hq h3 t3 hc hkc hd hn h0
        go_wp2_with fail
        refine (keeps (Tryd.strings_TrimRight_one s 122 (by decide) _ (by omega))).mono ?_
        rw [HT.out]
        rintro e w2 ⟨rfl, rfl⟩
        go_wp2_with fail
        refine (keeps (ixb keyS c _)).mono ?_
        rw [keyS_list, HQ.out]
        rintro e w2 ⟨rfl, rfl⟩
        go_wp2_with fail
        go_ret2
        exact ⟨by rw [HN.out]; rfl, c1.trans ((CB.out.setCell (Nat.le_refl _) _).mono c1.size)⟩
  · have HN := Lib.hid (nextV_no hk)
    obtain ⟨x, hx⟩ : ∃ x, keyV s.data.toList = x := ⟨_, rfl⟩
    have hx0 : (x != 0) = true := by rw [bne_iff_ne, ← hx]; exact hk
    have HX := Lib.hid hx
    clear hk hx hlen
    go_enter Tryd.func20, Tryd.ntmps20
    go_wp2_with fail
    refine (kcheck_any s hz _).mono ?_
    rw [HX.out]
    rintro e w' ⟨rfl, b1⟩
    go_wp2_with fail
    go_ret2
    exact ⟨by rw [HN.out]; rfl, b1⟩
end Go.Proofs.YthmbcjladgnigaaDoor
