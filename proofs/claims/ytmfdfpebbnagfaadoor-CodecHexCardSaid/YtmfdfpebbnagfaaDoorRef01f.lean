/-
  The reference's ParseHex, walked.
  Conditions: at most 2^44 bytes.
-/
import Derived.Test.YtmfdfpebbnagfaaDoorRef01e
import Derived.Test.YtmfdfpebbnagfaaDoorCut
set_option linter.unusedVariables false
namespace Go.Proofs.YtmfdfpebbnagfaaDoor
open Go Go.RowKit

set_option maxHeartbeats 2000000 in
theorem rparseHex_any (s : ByteArray) (w : World) (hl : s.size ≤ 17592186044416) :
    Calls Tryd.prog 21 #[.string s] w fun e w' => ∃ v1 v2, e = .returned (.tuple #[v1, v2]) ∧ HexParsed w' s.data.toList v1 v2 ∧ Below w.heap.size w w' := by
  obtain ⟨i0, hi, hz0, hz1, hz2⟩ := info_parts infoU8
  have HL := Lib.hid (str_len s)
  go_enter Tryd.func21, Tryd.ntmps21
  go_wp2_with fail
  go_loopw [4, 5] (fun vo vi wr => ∃ i : Nat, i ≤ s.size ∧ vi = .int .i64 i ∧ Hid (i % 2 = 0) ∧ Hid (wr.ownsRow w.heap.size 5 1 vo (goodL (s.data.toList.take i)).length (Lib.byteCells (goodL (s.data.toList.take i)))) ∧ Below w.heap.size w wr) (fun _ vi _ => s.size - (intOf vi).toNat)
  case atStart => exact ⟨0, Nat.zero_le _, rfl, rfl, World.ownsRow_nil _ _ _ _, Below.refl _ _⟩
  case round =>
    obtain ⟨i, hile, rfl, hi2, hr, hbr⟩ := hrel
    by_cases hlt : i + 1 < s.size
    · obtain ⟨a, ha⟩ : ∃ a : UInt8, s.data.toList.getD i 0 = a := ⟨_, rfl⟩
      obtain ⟨b, hb⟩ : ∃ b : UInt8, s.data.toList.getD (i + 1) 0 = b := ⟨_, rfl⟩
      have HG := goodL_take s.data.toList i (by rw [HL.out]; exact hlt) hi2.out
      rw [ha, hb, ← soFar_done] at HG
      have HG : Hid (goodL (s.data.toList.take (i + 2)) = goodL (s.data.toList.take i) ++ soFar a b 256) := HG
      have hgl : 2 * (goodL (s.data.toList.take i)).length ≤ i := by have := goodL_length (s.data.toList.take i); rw [List.length_take] at this; omega
      generalize goodL (s.data.toList.take i) = acc at *
      have d0 : decide ((i : Int) + 1 < (s.size : Int)) = true := by rw [decide_eq_true_iff]; omega
      go_wp2_with fail
      go_loopw [4, 6] (fun vo vk wq => ∃ k : Nat, k ≤ 256 ∧ vk = .int .i64 k ∧ Hid (wq.ownsRow w.heap.size 5 1 vo (acc ++ soFar a b k).length (Lib.byteCells (acc ++ soFar a b k))) ∧ Below w.heap.size w wq) (fun _ vk _ => 256 - (intOf vk).toNat)
      case atStart => exact ⟨0, Nat.zero_le _, rfl, by rw [soFar_zero, List.append_nil]; exact hr, hbr⟩
      case round =>
        clear hr hbr
        obtain ⟨k, hk, rfl, hr, hbr⟩ := hrel
        by_cases hk2 : k < 256
        · have d1 : decide ((k : Int) < 256) = true := by rw [decide_eq_true_iff]; omega
          have HK := Lib.hid hk2
          have w5 : IntKind.i64.wrap ((i : Int) + 2) = (i : Int) + 2 := by rw [IntKind.wrap_i64]; omega
          have w9 : IntKind.i64.wrap ((k : Int) + 1) = (k : Int) + 1 := by rw [IntKind.wrap_i64]; omega
          have w6 : IntKind.i64.wrap ((k : Int) / 16) = (k : Int) / 16 := by rw [IntKind.wrap_i64]; omega
          have w7 : IntKind.i64.wrap ((k : Int) % 16) = (k : Int) % 16 := by rw [IntKind.wrap_i64]; omega
          have hcut := fun wx => run_slice_str (P := Tryd.prog) s 9 Tryd.underlying9 (i : Int) ((i : Int) + 2) i (i + 2) rfl (by omega) (by omega) (by omega) wx
          rw [extract_two s i (by omega), ha, hb] at hcut
          have w4 : (k : Int).tmod 16 = (k : Int) % 16 := Int.tmod_eq_emod_of_nonneg (by omega)
          have dx := fun wx => rdigit_any ((k : Int) / 16) (by omega) (by omega) wx
          have dy := fun wx => rdigit_any ((k : Int) % 16) (by omega) (by omega) wx
          rw [show ((k : Int) / 16).toNat = k / 16 by omega] at dx
          rw [show ((k : Int) % 16).toNat = k % 16 by omega] at dy
          obtain ⟨x, hx⟩ : ∃ x : UInt8, hexD (k / 16) = x := ⟨_, rfl⟩
          obtain ⟨y, hy⟩ : ∃ y : UInt8, hexD (k % 16) = y := ⟨_, rfl⟩
          rw [hx] at dx
          rw [hy] at dy
          have DX := Lib.hid dx
          have DY := Lib.hid dy
          clear dx dy
          have hsz := str_app1 x y
          by_cases hab : [a, b] = [x, y]
          · have ht : ([a, b] == (⟨#[x]⟩ ++ ⟨#[y]⟩ : ByteArray).toList) = true := by rw [hsz]; exact beq_iff_eq.mpr hab
            have hso := soFar_hit (a := a) (b := b) (k := k) (by rw [hx, hy]; exact hab) hk2
            have HT := Lib.hid hso.2
            have hz := hso.1
            rw [hz, List.append_nil] at hr
            have hcb : ((UInt8.ofNat k).toNat : Int) = (k : Int) := by rw [UInt8.toNat_ofNat']; omega
            have w8 : IntKind.u8.wrap (k : Int) = (k : Int) := by rw [IntKind.wrap_u8]; omega
            have HCB := Lib.hid hcb
            have HW8 := Lib.hid w8
            clear w8
            clear hso hz hcb hk hk2 hab hx hy hsz ha hb
            go_wp2_with fail
            go_quiet ((go_at_call 36; exact Calls.quiet_of_same (by first | exact DX.out _ | exact DY.out _)))
            clear d1 w4 w5 w6 w7 hcut
            have HK2 : Hid ((k : Int) < 256) := by have := HK.out; show (k : Int) < 256; omega
            go_wp2_with (at_builtin; refine wpList_append_bytes _ rfl (.tmp 31) (.tmp 34) 22 rfl w.heap.size 5 i0 (.int .u8 0) Tryd.underlying22 hi hz0 hz1 hz2 rfl u4 _ _ rfl (World.ownsRow.alloc (w := World.drewN wr _) hr.out _) _ [UInt8.ofNat k] rfl (bytesAt_one _ _ _ (by have := HCB.out; have := HK2.out; first | exact HCB.out | omega) _) (by rw [List.length_singleton]; omega) (by have := hbr.size; simp; omega) ?_)
            intro v' w3 hown hgrow
            have c3 : Below w.heap.size w w3 := ((below_drewN hbr _).alloc hbr.size _).grown hgrow (by have := hbr.size; simp; omega) (fun j hj => (hr.out.lt j hj).1)
            have HR : Hid (w3.ownsRow w.heap.size 5 1 v' (acc ++ soFar a b (k + 1)).length (Lib.byteCells (acc ++ soFar a b (k + 1)))) := by
              show World.ownsRow _ _ _ _ _ _ _
              rw [HT.out]
              rw [List.length_append, Lib.byteCells_append, List.length_singleton]
              exact hown
            clear hown hgrow
            go_wp2_with fail
            go_roundw
            case rel => exact ⟨k + 1, HK.out, by go_num, HR, c3⟩
            case measure => have := HK.out; simp [intOf]; omega
          · have ht : ([a, b] == (⟨#[x]⟩ ++ ⟨#[y]⟩ : ByteArray).toList) = false := by rw [hsz]; exact beq_eq_false_iff_ne.mpr hab
            have hso := soFar_miss (a := a) (b := b) (k := k) (by rw [hx, hy]; exact hab) hk2
            rw [← hso] at hr
            clear hso hk hk2 hab hx hy hsz ha hb
            go_wp2_with fail
            go_quiet ((go_at_call 36; exact Calls.quiet_of_same (by first | exact DX.out _ | exact DY.out _)))
            go_wp2_with fail
            go_roundw
            case rel => exact ⟨k + 1, HK.out, by go_num, hr, below_drewN hbr _⟩
            case measure => have := HK.out; simp [intOf]; omega
        · obtain rfl : k = 256 := by omega
          clear hk hk2
          rw [HG.out.symm] at hr
          have HI : Hid ((i + 2) % 2 = 0) := by have := hi2.out; show (i + 2) % 2 = 0; omega
          go_wp2_with fail
          go_roundw
          case rel => exact ⟨i + 2, by omega, by go_num, HI, hr, hbr⟩
          case measure => simp [intOf]; omega
    · have HG := goodL_odd s.data.toList i (by rw [HL.out]; omega) hi2.out
      rw [HG] at hr
      have hB : BytesAt wr u4 (goodL s.data.toList) := BytesAt.of_owns hr.out
      have hlen := goodL_length s.data.toList
      rw [HL.out] at hlen
      have hun := unhex_goodL s.data.toList
      rw [HL.out] at hun
      clear HG hr
      generalize goodL s.data.toList = L at *
      by_cases h2 : 2 * L.length = s.size
      · rw [if_pos h2] at hun
        have hres : Hid (HexParsed wr s.data.toList u4 (.int .i64 0)) := Or.inr ⟨L, hun, hB, rfl⟩
        obtain ⟨p, c, rfl, hc, hp⟩ := hB
        have ht : ((2 * (L.length : Int)) != (s.size : Int)) = false := by rw [bne_eq_false_iff_eq]; omega
        clear hp hun h2
        go_wp2_with fail
        go_ret2
        exact ⟨_, _, rfl, hres.out, hbr⟩
      · rw [if_neg h2] at hun
        have HU := Lib.hid hun
        obtain ⟨p, c, rfl, hc, hp⟩ := hB
        have ht : ((2 * (L.length : Int)) != (s.size : Int)) = true := by rw [bne_iff_ne]; omega
        clear hp hun h2
        go_wp2_with fail
        go_ret2
        exact ⟨_, _, rfl, Or.inl ⟨HU.out, rfl, rfl⟩, hbr⟩
end Go.Proofs.YtmfdfpebbnagfaaDoor
