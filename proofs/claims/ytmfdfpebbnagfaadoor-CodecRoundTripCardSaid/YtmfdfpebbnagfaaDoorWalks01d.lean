/-
  The walk of CodecHexBack.
  Conditions: the library's table lies in the world.
-/
import Derived.Test.YtmfdfpebbnagfaaDoorWorks01
set_option linter.unusedVariables false
namespace Go.Proofs.YtmfdfpebbnagfaaDoor
open Go Go.RowKit

theorem addr_zero (p : Option Addr) (c : Nat) : (if c = 0 then p else p.map (·.add 0)) = p := by
  split
  · rfl
  · cases p with
    | none => rfl
    | some a =>
      obtain ⟨b, o, sp⟩ := a
      show some (Addr.add _ 0) = _
      unfold Addr.add
      split <;> simp_all
/-- b[:m]. -/
theorem run_upto (p : Option Addr) (n c m : Nat) (h : m ≤ c) (wx : World) :
    (Instr.slice 22 (.slice p n c) none (some (.int .i64 (m : Int))) none).run Tryd.prog wx = .ok (.slice p m c) wx := by
  have hs : ∀ w, (Go.sizeOf 5).run Tryd.prog w = .ok 1 w := fun w => by kernel_rfl
  have ht' : Tryd.prog.underlying 22 = some (.slice (Tryd.prog.elem 22)) := by simp [Program.elem, Tryd.underlying22]
  have he : Tryd.prog.elem 22 = 5 := by simp [Program.elem, Tryd.underlying22]
  rw [run_slice_h wx 22 p n c ht' .i64 (m : Int) (by omega) (by omega), he, hs]
  show Result.ok (sliced p 0 (m : Int).toNat c 1) wx = _
  unfold sliced
  rw [Nat.zero_mul, addr_zero]
  rfl
/-- b[:min(len(b), k)]. -/
theorem cut_bytes {w : World} {v : Value} {l : List UInt8} (hv : BytesAt w v l) (k : Nat) :
    ∃ (p : Option Addr) (n c m : Nat) (l2 : List UInt8), v = .slice p n c ∧ n = l.length ∧ min (n : Int) (k : Int) = (m : Int) ∧ m ≤ k ∧ m ≤ n ∧ l2 = l.take m ∧ l2.length = m ∧ BytesAt w (.slice p m c) l2 ∧
      (∀ wx, (Instr.slice 22 (.slice p n c) none (some (.int .i64 (m : Int))) none).run Tryd.prog wx = .ok (.slice p m c) wx) := by
  obtain ⟨p, c, rfl, hc, hp⟩ := hv
  have hm : min l.length k ≤ l.length := Nat.min_le_left _ _
  have hl : (l.take (min l.length k)).length = min l.length k := by rw [List.length_take]; omega
  refine ⟨p, l.length, c, min l.length k, l.take (min l.length k), rfl, rfl, by omega, Nat.min_le_right _ _, hm, rfl, hl, ⟨p, c, by rw [hl], by rw [hl]; omega, fun h0 => ?_⟩, run_upto p _ c _ (by omega)⟩
  rw [hl] at h0
  obtain ⟨b, o, hbo, hcell⟩ := hp (by omega)
  refine ⟨b, o, hbo, fun i hi => ?_⟩
  rw [hl] at hi
  rw [hcell i (by omega)]
  have : (l.take (min l.length k)).getD i 0 = l.getD i 0 := by rw [List.getD, List.getElem?_take, if_pos hi, List.getD]
  rw [this]

set_option maxHeartbeats 4000000 in
theorem walkCodecHexBack (w : World) (v : Value) (l : List UInt8) (hv : BytesAt w v l) (s : ByteArray) (hs : s.size ≤ maxLen) (ht : Tab w) :
    Calls Tryd.prog 8 #[v, .string s] w fun e w' => e = .returned (.bool true) ∧ Below w.heap.size w w' := by
  have HT := Lib.hid ht
  obtain ⟨p, n, c, m, l2, rfl, hn, hmin, hm3, hmn, _, hl2, hv2, hcut⟩ := cut_bytes hv 300
  have HV := Lib.hid hv2
  have hmin2 : min (n : Int) 300 = (m : Int) := hmin
  have HM : Hid (m ≤ 300 ∧ l2.length = m) := ⟨hm3, hl2⟩
  obtain ⟨T, hT⟩ : ∃ T : ByteArray, (⟨(hexL l2).toArray⟩ : ByteArray) = T := ⟨_, rfl⟩
  have HT1 := Lib.hid hT
  have HT2 : Hid (T.data.toList = hexL l2) := by show _ = _; rw [← hT]
  have HT3 : Hid (T.size = 2 * m) := by show _ = _; rw [← str_len, HT2.out, hexL_length, hl2]
  have t1 : ((T.size : Int) != 2 * (m : Int)) = false := by rw [HT3.out]; simp
  have t2 : IntKind.i64.wrap (2 * (m : Int)) = 2 * (m : Int) := IntWalk.i64_in _ (by omega)
  have c1 := Below.refl w.heap.size w
  clear ht hs hv hv2 hn hmin hm3 hmn hl2 hT
  go_enter Tryd.func8, Tryd.ntmps8
  go_wp2_with fail
  refine (hex_is _ l2 T _ HV.out (by have := HM.out; omega) HT1.out).mono ?_
  rintro e w101 ⟨rfl, b1⟩
  have c2 := c1.trans (b1.mono c1.size); clear c1 b1
  have c1 := c2; clear c2
  go_wp2_with fail
  refine (parseHex_ok T l2 _ (by have := HM.out; have := HT3.out; omega) (by rw [HT2.out]; exact unhex_hexL l2)).mono ?_
  rintro e w102 ⟨v1, rfl, X1, b1⟩
  have c2 := c1.trans (b1.mono c1.size); clear c1 b1
  have c1 := c2; clear c2
  go_wp2_with fail
  refine (equal_is v1 _ l2 l2 true _ X1 (HV.out.below c1) (beq_self_eq_true l2)).mono ?_
  rintro e w103 ⟨rfl, rfl⟩
  clear X1
  by_cases h300 : 300 < s.size
  · have d1 : decide ((300 : Int) < (s.size : Int)) = true := by rw [decide_eq_true_iff]; omega
    clear h300
    go_wp2_with fail
    refine (works_any _ (HT.out.below c1)).mono ?_
    rintro e w104 ⟨rfl, b1⟩
    have c2 := c1.trans (b1.mono c1.size); clear c1 b1
    have c1 := c2; clear c2
    go_wp2_with fail
    go_ret
    exact ⟨rfl, c1⟩
  · have d1 : decide ((300 : Int) < (s.size : Int)) = false := by rw [decide_eq_false_iff_not]; omega
    have HS : Hid (s.size ≤ 300) := by show s.size ≤ 300; omega
    clear h300
    rcases hx : unhex s.data.toList with _ | t
    · have H := Lib.hid hx; clear hx
      go_wp2_with fail
      refine (parseHex_bad s _ (by have := HS.out; omega) H.out).mono ?_
      rintro e w105 ⟨rfl, b1⟩
      have c2 := c1.trans (b1.mono c1.size); clear c1 b1
      have c1 := c2; clear c2
      go_wp2_with fail
      refine (works_any _ (HT.out.below c1)).mono ?_
      rintro e w106 ⟨rfl, b1⟩
      have c2 := c1.trans (b1.mono c1.size); clear c1 b1
      have c1 := c2; clear c2
      go_wp2_with fail
      go_ret
      exact ⟨rfl, c1⟩
    · have H := Lib.hid hx; clear hx
      have hb := hexL_unhex s.data.toList t H.out
      have HL : Hid (t.length ≤ 300) := by
        show t.length ≤ 300
        have h1 := congrArg List.length hb
        rw [hexL_length, str_len] at h1
        have := HS.out
        omega
      have HB : Hid ((⟨(hexL t).toArray⟩ : ByteArray) = s) := by show _ = _; rw [hb, str_back]
      clear hb
      go_wp2_with fail
      refine (parseHex_ok s t _ (by have := HS.out; omega) H.out).mono ?_
      rintro e w107 ⟨v2, rfl, X2, b1⟩
      have c2 := c1.trans (b1.mono c1.size); clear c1 b1
      have c1 := c2; clear c2
      go_wp2_with fail
      refine (hex_is v2 t s _ X2 (by have := HL.out; omega) HB.out).mono ?_
      rintro e w108 ⟨rfl, b1⟩
      have c2 := c1.trans (b1.mono c1.size); clear c1 b1
      have c1 := c2; clear c2
      go_wp2_with fail
      refine (works_any _ (HT.out.below c1)).mono ?_
      rintro e w109 ⟨rfl, b1⟩
      have c2 := c1.trans (b1.mono c1.size); clear c1 b1
      have c1 := c2; clear c2
      go_wp2_with fail
      go_ret
      exact ⟨rfl, c1⟩
end Go.Proofs.YtmfdfpebbnagfaaDoor
