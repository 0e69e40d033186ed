/-
  A key out of bytes: what Made computes.
  Conditions: none.
-/
import Derived.Test.YthmbcjladgnigaaDoorKeyM
import Derived.Test.YthmbcjladgnigaaDoorUpto
import Derived.Test.YthmbcjladgnigaaDoorBytes
set_option linter.unusedVariables false
namespace Go.Proofs.YthmbcjladgnigaaDoor
open Go Go.RowKit

theorem infoU8 : (Tryd.prog.info? 5).map (fun i => (i.zero, i.size, i.bytes)) = some (some (.int .u8 0), 1, 1) := by kernel_rfl
def pick (c : UInt8) : UInt8 := keyL.getD (c.toNat % 39) 0
def pickL (l : List UInt8) : List UInt8 := l.map pick
def madeL (l : List UInt8) : List UInt8 := if (l.take 32).length = 0 then [107] else pickL (l.take 32)
theorem pick_key : ∀ n : Nat, n < 39 → isKey (keyL.getD n 0) = true := by decide +kernel
theorem pickL_all (l : List UInt8) : (pickL l).all isKey = true := by
  rw [List.all_eq_true]
  intro x hx
  obtain ⟨c, _, rfl⟩ := List.mem_map.1 hx
  exact pick_key _ (Nat.mod_lt _ (by decide))
theorem madeL_key (l : List UInt8) : keyV (madeL l) = 0 := by
  unfold madeL
  split
  · decide +kernel
  · rename_i h
    exact keyV_ok (pickL_all _) (by unfold pickL; rw [List.length_map]; omega) (by unfold pickL; rw [List.length_map, List.length_take]; omega)
theorem pickL_snoc (l : List UInt8) (i : Nat) (h : i < l.length) : pickL (l.take (i + 1)) = pickL (l.take i) ++ [pick (l.getD i 0)] := by
  unfold pickL
  rw [List.take_succ_eq_append_getElem h, List.map_append, List.getD, List.getElem?_eq_getElem h]
  rfl
theorem str_bytes_size (l : List UInt8) : (⟨l.toArray⟩ : ByteArray).data.toList = l := rfl

set_option maxHeartbeats 1000000 in
theorem made_any (v : Value) (l : List UInt8) (w : World) (hv : BytesAt w v l) :
    Calls Tryd.prog 24 #[v] w fun e w' => e = .returned (.string ⟨(madeL l).toArray⟩) ∧ Below w.heap.size w w' := by
  obtain ⟨i0, hi0, hz0, hz1, hz2⟩ := info_parts infoU8
  obtain ⟨p, n, c, m, l2, rfl, hn, hmin, hm3, hmn, hl2t, hl2, hv2, hcut⟩ := cut_bytes hv 32
  have hmin2 : min (n : Int) 32 = (m : Int) := hmin
  have hmade : madeL l = if m = 0 then [107] else pickL l2 := by
    unfold madeL
    have e : l.take 32 = l2 := by
      rw [hl2t, List.take_eq_take_iff]
      omega
    rw [e, hl2]
  have HMd := Lib.hid hmade
  have HV := Lib.hid hv2
  have HL := Lib.hid hl2
  have h0 : Hid (w.ownsRow w.heap.size 5 1 (.slice none 0 0) (pickL (l2.take 0)).length (Lib.byteCells (pickL (l2.take 0)))) := World.ownsRow_nil _ _ _ _
  clear hmade hv hv2 hn hmin hl2t hl2
  go_enter Tryd.func24, Tryd.ntmps24
  go_wp2_with fail
  go_loopw [3, 12] (fun vo vi wr => ∃ i : Nat, i ≤ m ∧ vi = .int .i64 i ∧ Hid (wr.ownsRow w.heap.size 5 1 vo (pickL (l2.take i)).length (Lib.byteCells (pickL (l2.take i)))) ∧ Below w.heap.size w wr) (fun _ vi _ => m - (intOf vi).toNat)
  case atStart => exact ⟨0, Nat.zero_le _, rfl, h0, Below.refl _ _⟩
  case round =>
    clear h0
    obtain ⟨i, hi, rfl, hr, hbr⟩ := hrel
    by_cases hlt : i < m
    · obtain ⟨b, o, hp, hcell⟩ : ∃ b o, p = some ⟨b, o, none⟩ ∧ wr.cell? ⟨b, o + i, none⟩ = some (.int .u8 ((l2.getD i 0).toNat : Int)) := by
        obtain ⟨p', c', he, _, hp⟩ := HV.out.below hbr
        obtain ⟨b, o, rfl, hc⟩ := hp (by have := HL.out; omega)
        cases he
        exact ⟨b, o, rfl, hc i (by have := HL.out; omega)⟩
      subst hp
      have hsn := pickL_snoc l2 i (by have := HL.out; omega)
      obtain ⟨x, hx⟩ : ∃ x, l2.getD i 0 = x := ⟨_, rfl⟩
      rw [hx] at hcell hsn
      have hx8 : x.toNat < 256 := x.toNat_lt
      have q1 : ((x.toNat : Int)).tmod 39 = ((x.toNat % 39 : Nat) : Int) := by rw [Int.tmod_eq_emod_of_nonneg (by omega)]; omega
      have q2 : ((x.toNat : Int)) % 39 = ((x.toNat % 39 : Nat) : Int) := by omega
      have hr39 : x.toNat % 39 < 39 := Nat.mod_lt _ (by decide)
      obtain ⟨y, hy⟩ : ∃ y, pick x = y := ⟨_, rfl⟩
      have i1 := run_str_at (P := Tryd.prog) keyS 9 Tryd.underlying9 .i64 ((x.toNat % 39 : Nat) : Int) (x.toNat % 39) rfl (by show x.toNat % 39 < 39; exact hr39) y (by rw [← hy]; rfl)
      rw [hy] at hsn
      have HS := Lib.hid hsn
      have hln : (pickL (l2.take i)).length = i := by unfold pickL; rw [List.length_map, List.length_take, HL.out]; omega
      clear hx hy hsn
      generalize x.toNat % 39 = r at *
      go_wp2_with (at_builtin; refine wpList_append_bytes _ rfl (.tmp 16) (.tmp 21) 33 rfl w.heap.size 5 i0 (.int .u8 0) Tryd.underlying33 hi0 hz0 hz1 hz2 rfl u3 _ _ rfl (hr.out.alloc _) _ [y] rfl (bytesAt_one wr _ _ rfl _) (by rw [hln, List.length_singleton]; omega) (by have := hbr.size; simp; omega) ?_)
      intro v' w3 hown hgrow
      have c3 : Below w.heap.size w w3 := (hbr.alloc hbr.size _).grown hgrow (by have := hbr.size; simp; omega) (fun j hj => (hr.out.lt j hj).1)
      have HR : Hid (w3.ownsRow w.heap.size 5 1 v' (pickL (l2.take (i + 1))).length (Lib.byteCells (pickL (l2.take (i + 1))))) := by
        show World.ownsRow _ _ _ _ _ _ _
        rw [HS.out, List.length_append, Lib.byteCells_append, List.length_singleton, hln]
        exact hown
      clear hown hgrow
      go_wp2_with fail
      go_roundw
      case rel => exact ⟨i + 1, by omega, by go_num, HR, c3⟩
      case measure => simp [intOf]; omega
    · obtain rfl : i = m := by omega
      have ht : l2.take i = l2 := List.take_of_length_le (by rw [HL.out]; exact Nat.le_refl _)
      rw [ht] at hr
      have hb := BytesAt.of_owns hr.out
      have hcv := hb.convert (P := Tryd.prog) 33 9 5 Tryd.underlying33 Tryd.underlying5 Tryd.underlying9
      obtain ⟨p8, c8, hv8, _, _⟩ := hb
      have hln : (pickL l2).length = i := by unfold pickL; rw [List.length_map, HL.out]
      rw [hln] at hv8
      subst hv8
      clear ht hlt hr
      by_cases h0 : i = 0
      · subst h0
        have HB : Hid (madeL l = [107]) := by show _ = _; rw [HMd.out, if_pos rfl]
        clear hln
        go_wp2_with fail
        go_ret
        exact ⟨by rw [HB.out]; rfl, hbr⟩
      · have HB : Hid (madeL l = pickL l2) := by show _ = _; rw [HMd.out, if_neg h0]
        have e1 : ((i : Int) == 0) = false := by rw [beq_eq_false_iff_ne]; omega
        have e2 : (i == 0) = false := by rw [beq_eq_false_iff_ne]; omega
        clear hln
        go_wp2_with fail
        go_ret
        exact ⟨by rw [HB.out]; rfl, hbr⟩
end Go.Proofs.YthmbcjladgnigaaDoor
