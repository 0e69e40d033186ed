/-
  The walks of CodecIntegers and CodecTorn.
  Conditions: the library's table lies in the world.
-/
import Derived.Test.YtmfdfpebbnagfaaDoorWalks01d
import Derived.Test.YtmfdfpebbnagfaaDoorRef01b
import Derived.Test.YtmfdfpebbnagfaaDoorRef01c
set_option linter.unusedVariables false
namespace Go.Proofs.YtmfdfpebbnagfaaDoor
open Go Go.RowKit

set_option maxHeartbeats 4000000 in
theorem walkCodecIntegers (w : World) (v : Value) (l : List UInt8) (hv : BytesAt w v l) (n : Int) (hn : (Lit.int .u64 n).wf = true) (wd : Int) (hwd : (Lit.int .i64 wd).wf = true) (a : Int) (ha : (Lit.int .i64 a).wf = true) (ht : Tab w) :
    Calls Tryd.prog 3 #[v, .int .u64 n, .int .i64 wd, .int .i64 a] w fun e w' => e = .returned (.bool true) ∧ Below w.heap.size w w' := by
  have hn2 : 0 ≤ n ∧ n < 18446744073709551616 := by have e1 : IntKind.u64.min = 0 := rfl; have e2 : IntKind.u64.max = 18446744073709551615 := rfl; simp [Lit.wf, e1, e2] at hn; omega
  have ha2 : Hid (a < 9223372036854775808) := by
    show a < 9223372036854775808
    have e1 : IntKind.i64.min = -9223372036854775808 := rfl; have e2 : IntKind.i64.max = 9223372036854775807 := rfl; simp [Lit.wf, e1, e2] at ha; omega
  obtain ⟨u, rfl⟩ : ∃ u : Nat, n = (u : Int) := ⟨n.toNat, by omega⟩
  have HU : Hid (u < 256 ^ 8) := by show u < 256 ^ 8; have : (256 : Nat) ^ 8 = 18446744073709551616 := by decide
                                    omega
  have HT := Lib.hid ht
  have HV := Lib.hid hv
  obtain ⟨p, c, rfl, hc, hp⟩ := hv
  clear hp ht hn hn2 hwd ha hc
  have c1 := Below.refl w.heap.size w
  obtain ⟨r, x, hax⟩ : ∃ r x, appV l u wd = (r, x) := ⟨_, _, rfl⟩
  obtain ⟨q, y, huy⟩ : ∃ q y, uintV l a wd = (q, y) := ⟨_, _, rfl⟩
  obtain ⟨F, hF⟩ : ∃ F, fitsV u wd = F := ⟨_, rfl⟩
  have HAX := Lib.hid hax
  have HUY := Lib.hid huy
  have HF := Lib.hid hF
  clear hax huy hF
  by_cases h1 : 1000 < l.length
  · have d1 : decide ((1000 : Int) < (l.length : Int)) = true := by rw [decide_eq_true_iff]; omega
    clear h1
    go_enter Tryd.func3, Tryd.ntmps3
    go_wp2_with fail
    refine (works_any _ (HT.out.below c1)).mono ?_
    rintro e w101 ⟨rfl, b1⟩
    have c2 := c1.trans (b1.mono c1.size); clear c1 b1
    have c1 := c2; clear c2
    go_wp2_with fail
    go_ret
    exact ⟨rfl, c1⟩
  · have d1 : decide ((1000 : Int) < (l.length : Int)) = false := by rw [decide_eq_false_iff_not]; omega
    have HS : Hid (l.length ≤ 1000) := by show l.length ≤ 1000; omega
    clear h1
    go_enter Tryd.func3, Tryd.ntmps3
    go_wp2_with fail
    refine (append_any _ l u wd _ (HV.out.below c1) (by have := HS.out; omega) HU.out).mono ?_
    rw [HAX.out]
    rintro e w102 ⟨v1, rfl, X1, b1⟩
    have c2 := c1.trans (b1.mono c1.size); clear c1 b1
    have c1 := c2; clear c2
    go_wp2_with fail
    refine (rappend_any _ l u wd _ (HV.out.below c1) (by have := HS.out; omega) HU.out).mono ?_
    rw [HAX.out]
    rintro e w2 ⟨v2, rfl, X2, b1⟩
    have X1 := X1.below b1
    have c2 := c1.trans (b1.mono c1.size); clear c1 b1
    go_wp2_with fail
    refine (uint_any _ l a wd _ (HV.out.below c2) (by have := HS.out; omega)).mono ?_
    rw [HUY.out]
    rintro e w3 ⟨rfl, b1⟩
    have X1 := X1.below b1
    have X2 := X2.below b1
    have c1 := c2.trans (b1.mono c2.size); clear c2 b1
    go_wp2_with fail
    refine (keeps (ruint_any _ l a wd _ (HV.out.below c1) (by have := HS.out; omega) ha2.out)).mono ?_
    rw [HUY.out]
    rintro e w103 ⟨rfl, rfl⟩
    go_wp2_with fail
    refine (equal_is v1 v2 r r true _ X1 X2 (beq_self_eq_true r)).mono ?_
    rintro e w104 ⟨rfl, rfl⟩
    clear X1 X2
    go_wp2_with fail
    refine (fits_any u wd _ HU.out).mono ?_
    rw [HF.out]
    rintro e w105 ⟨rfl, b1⟩
    have c2 := c1.trans (b1.mono c1.size); clear c1 b1
    have c1 := c2; clear c2
    go_wp2_with fail
    refine (rfits_any u wd _ HU.out).mono ?_
    rw [HF.out]
    rintro e w106 ⟨rfl, b1⟩
    have c2 := c1.trans (b1.mono c1.size); clear c1 b1
    have c1 := c2; clear c2
    go_wp2_with fail
    refine (works_any _ (HT.out.below c1)).mono ?_
    rintro e w107 ⟨rfl, b1⟩
    have c2 := c1.trans (b1.mono c1.size); clear c1 b1
    have c1 := c2; clear c2
    go_wp2_with fail
    go_ret
    exact ⟨rfl, c1⟩

/-- The four widths, by their place. -/
def wN (j : Nat) : Nat := match j with | 0 => 1 | 1 => 2 | 2 => 4 | 3 => 8 | _ => 1
theorem wN_is (j : Nat) : isW (wN j : Int) = true := by
  unfold wN; split <;> rfl
theorem wN_le (j : Nat) : 1 ≤ wN j ∧ wN j ≤ 8 := by unfold wN; split <;> omega
def WidthsAt (w : World) (B : Nat) : Prop := ∀ j, j < 4 → w.cell? ⟨B, j, none⟩ = some (.int .i64 (wN j : Int))
theorem WidthsAt.below {w w' : World} {B : Nat} (h : WidthsAt w B) (hb : Below w.heap.size w w') : WidthsAt w' B := fun j hj => by
  rw [hb.cell (p := ⟨B, j, none⟩) (World.block_lt_of_cell? w _ (h j hj)), h j hj]
theorem widthsAt_new (w : World) : WidthsAt (widthsWorld w) w.heap.size := fun j hj => by
  have hh : (widthsWorld w).heap[w.heap.size]? = some (.cells #[.int .i64 1, .int .i64 2, .int .i64 4, .int .i64 8] 3) := by
    show (w.heap.push _)[w.heap.size]? = _
    simp
  rw [Lib.cell_of_heap hh]
  match j, hj with
  | 0, _ => rfl
  | 1, _ => rfl
  | 2, _ => rfl
  | 3, _ => rfl
theorem lwidths_any (w : World) :
    Calls Tryd.prog 28 #[] w fun e w' => e = .returned (.slice (some ⟨w.heap.size, 0, none⟩) 4 4) ∧ widthsWorld w = w' := by
  go_enter Tryd.func28, Tryd.ntmps28
  go_wp2_with fail
  go_ret
  exact ⟨rfl, rfl⟩

theorem BytesAt.upto {w : World} {p : Option Addr} {n c m : Nat} {l : List UInt8} (h : BytesAt w (.slice p n c) l) (hm : m ≤ n) : BytesAt w (.slice p m c) (l.take m) := by
  obtain ⟨p', c', he, hc, hp⟩ := h
  obtain ⟨rfl, rfl, rfl⟩ : p = p' ∧ n = l.length ∧ c = c' := by cases he; exact ⟨rfl, rfl, rfl⟩
  have hl : (l.take m).length = m := by rw [List.length_take]; omega
  refine ⟨p, c, by rw [hl], by rw [hl]; omega, fun h0 => ?_⟩
  rw [hl] at h0
  obtain ⟨b, o, hbo, hcell⟩ := hp (by omega)
  refine ⟨b, o, hbo, fun i hi => ?_⟩
  rw [hl] at hi
  rw [hcell i (by omega)]
  have : (l.take m).getD i 0 = l.getD i 0 := by rw [List.getD, List.getElem?_take, if_pos hi, List.getD]
  rw [this]
theorem uintV_cut {l : List UInt8} {a k : Nat} (h : isW (k : Int) = true) (h3 : a + k ≤ l.length) : uintV (l.take (a + k)) (a : Int) (k : Int) = (unle ((l.drop a).take k), 0) := by
  rw [uintV_ok h (by rw [List.length_take]; omega), List.drop_take]
  congr 2
  rw [show a + k - a = k by omega, List.take_take, Nat.min_self]

set_option maxHeartbeats 4000000 in
theorem walkCodecTorn (w : World) (v : Value) (l : List UInt8) (hv : BytesAt w v l) (a : Int) (ha : (Lit.int .u16 a).wf = true) (ht : Tab w) :
    Calls Tryd.prog 7 #[v, .int .u16 a] w fun e w' => e = .returned (.bool true) ∧ Below w.heap.size w w' := by
  have ha2 : 0 ≤ a ∧ a ≤ 65535 := by have e1 : IntKind.u16.min = 0 := rfl; have e2 : IntKind.u16.max = 65535 := rfl; simp [Lit.wf, e1, e2] at ha; omega
  obtain ⟨K, hK⟩ : ∃ K : Nat, (K : Int) = a % 320 := ⟨(a % 320).toNat, by omega⟩
  have hK2 : K < 320 := by omega
  have q1 : a.tmod 320 = (K : Int) := by rw [Int.tmod_eq_emod_of_nonneg (by omega)]; omega
  have q2 : IntKind.u16.wrap (K : Int) = (K : Int) := by rw [IntKind.wrap_u16]; omega
  have HT := Lib.hid ht
  obtain ⟨p, n, c, m, l2, rfl, hn, hmin, hm3, hmn, _, hl2, hv2, hcut⟩ := cut_bytes hv 300
  have HV := Lib.hid hv2
  have hmc : Hid (m ≤ c) := by
    show m ≤ c
    obtain ⟨_, _, he, h1, _⟩ := hv2
    cases he
    omega
  have hmin2 : min (n : Int) 300 = (m : Int) := hmin
  have HM : Hid (m ≤ 300 ∧ l2.length = m) := ⟨hm3, hl2⟩
  clear ht hv hv2 hn hmin hmn hl2 ha ha2 hK
  go_enter Tryd.func7, Tryd.ntmps7
  go_wp2_with fail
  refine (lwidths_any _).mono ?_
  rintro e w1 ⟨rfl, rfl⟩
  have HW := Lib.hid (widthsAt_new w)
  have c1 := below_widths w
  go_wp2_with fail
  go_loopw [22] (fun vi wr => ∃ k : Nat, k ≤ 4 ∧ vi = .int .i64 k ∧ Hid (WidthsAt wr w.heap.size) ∧ Below w.heap.size w wr) (fun vi _ => 4 - (intOf vi).toNat)
  case atStart => exact ⟨0, Nat.zero_le _, rfl, HW, c1⟩
  case round =>
    clear HW c1
    obtain ⟨k, hk, rfl, hw, c1⟩ := hrel
    by_cases hlt : k < 4
    · have hx8 := wN_le k
      have HX := Lib.hid (wN_is k)
      have hcell := hw.out k hlt
      generalize wN k = x at *
      by_cases hto : m < K + x
      · have HU : Hid (uintV l2 (K : Int) (x : Int) = (0, 14)) := uintV_torn HX.out (by omega) (by have := HM.out; omega)
        go_wp2_with fail
        refine (uint_is _ l2 0 0 (K : Int) (x : Int) 14 _ rfl (HV.out.below c1) (by have := HM.out; omega) HU.out).mono ?_
        rintro e w2 ⟨rfl, b1⟩
        have hw2 := Lib.hid (hw.out.below b1)
        have c2 := c1.trans (b1.mono c1.size)
        clear hw c1 b1 hcell
        go_wp2_with fail
        go_roundw
        case rel => exact ⟨k + 1, by omega, by go_num, hw2, c2⟩
        case measure => simp [intOf]; omega
      · obtain ⟨z, hz⟩ : ∃ z, unle ((l2.drop K).take x) = z := ⟨_, rfl⟩
        have HU : Hid (uintV l2 (K : Int) (x : Int) = (z, 0)) := by show _ = _; rw [← hz]; exact uintV_ok HX.out (by have := HM.out; omega)
        have HU2 : Hid (uintV (l2.take (K + x)) (K : Int) (x : Int) = (z, 0)) := by show _ = _; rw [← hz]; exact uintV_cut HX.out (by have := HM.out; omega)
        have HV2 := Lib.hid (HV.out.upto (m := K + x) (by omega))
        have HL2 : Hid ((l2.take (K + x)).length ≤ 1000) := by show _ ≤ _; rw [List.length_take]; omega
        have hc2 := run_upto p m c (K + x) (by have := hmc.out; omega)
        simp only [Int.natCast_add] at hc2
        clear hz
        go_wp2_with fail
        refine (uint_is _ l2 z z (K : Int) (x : Int) 0 _ rfl (HV.out.below c1) (by have := HM.out; omega) HU.out).mono ?_
        rintro e w2 ⟨rfl, b1⟩
        have hw2 := Lib.hid (hw.out.below b1)
        have c2 := c1.trans (b1.mono c1.size)
        clear hw c1 b1 hcell
        go_wp2_with fail
        refine (uint_is _ (l2.take (K + x)) z z (K : Int) (x : Int) 0 _ rfl (HV2.out.below c2) (by have := HL2.out; omega) HU2.out).mono ?_
        rintro e w3 ⟨rfl, b1⟩
        have hw3 := Lib.hid (hw2.out.below b1)
        have c3 := c2.trans (b1.mono c2.size)
        clear hw2 c2 b1
        go_wp2_with fail
        go_roundw
        case rel => exact ⟨k + 1, by omega, by go_num, hw3, c3⟩
        case measure => simp [intOf]; omega
    · obtain rfl : k = 4 := by omega
      go_wp2_with fail
      go_wp2_with fail
      refine (works_any _ (HT.out.below c1)).mono ?_
      rintro e w108 ⟨rfl, b1⟩
      have c2 := c1.trans (b1.mono c1.size); clear c1 b1
      have c1 := c2; clear c2
      go_wp2_with fail
      go_ret
      exact ⟨rfl, c1⟩
end Go.Proofs.YtmfdfpebbnagfaaDoor
