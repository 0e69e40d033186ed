/-
  The walks of CodecRefuses and CodecBytes.
  Conditions: the library's table lies in the world.
-/
import Derived.Test.YtmfdfpebbnagfaaDoorWalks01e
set_option linter.unusedVariables false
namespace Go.Proofs.YtmfdfpebbnagfaaDoor
open Go Go.RowKit

/-- Twenty bytes that are zero. -/
def zero20 : Array Value := Array.replicate 20 (.int .u8 0)
theorem make20 (w : World) : (Instr.makeSlice 22 (.int .i64 20) (.int .i64 20)).run Tryd.prog w = .ok (.slice (some ⟨w.heap.size, 0, none⟩) 20 20) (w.alloc (.cells zero20 5)) := by
  obtain ⟨i0, hi, hz0, hz1, hz2⟩ := info_parts infoU8
  have h := run_make (P := Tryd.prog) w 22 5 i0 (.int .u8 0) Tryd.underlying22 hi hz0 .i64 .i64 20 20 (by decide) (by decide) (by rw [hz2]; decide) (by decide)
  rw [hz1, show madeCells (Value.int .u8 0).cells (Int.toNat 20 * 1) = zero20 by kernel_rfl] at h
  exact h
theorem bytes_zero20 (w : World) (e : TypeId) (fz : Nat × Nat) : BytesAt (w.alloc (.cells zero20 e fz)) (.slice (some ⟨w.heap.size, 0, none⟩) 20 20) (List.replicate 20 0) := by
  refine ⟨_, 20, rfl, Nat.le_refl _, fun _ => ⟨w.heap.size, 0, rfl, fun i hi => ?_⟩⟩
  have hh : (w.alloc (.cells zero20 e fz)).heap[w.heap.size]? = some (.cells zero20 e fz) := by
    show (w.heap.push _)[w.heap.size]? = _
    simp
  have hi : i < 20 := by simpa using hi
  rw [Lib.cell_of_heap hh, Nat.zero_add]
  unfold zero20
  rw [Array.getElem?_replicate, if_pos hi, List.getD, List.getElem?_replicate, if_pos hi]
  rfl

set_option maxHeartbeats 4000000 in
theorem refuses_on (w : World) (x y : Int) (u : Nat) (HU : Hid (u < 256 ^ 8)) (K : Nat) (hK : K ≤ 65535) (HT : Hid (Tab w)) (HY : Hid (isW y = false))
    (h : ((x == 1) = true ∧ (wrap64 (x + 1) == 2) = true ∧ y = 3) ∨ ((x == 1) = false ∧ (x == 2) = true ∧ wrap64 (x + 1) = y ∧ (y == 2) = false)
      ∨ ((x == 1) = false ∧ (x == 2) = false ∧ (x == 4) = true ∧ wrap64 (x + 1) = y ∧ (y == 2) = false)
      ∨ ((x == 1) = false ∧ (x == 2) = false ∧ (x == 4) = false ∧ (x == 8) = true ∧ wrap64 (x + 1) = y ∧ (y == 2) = false)
      ∨ ((x == 1) = false ∧ (x == 2) = false ∧ (x == 4) = false ∧ (x == 8) = false ∧ x = y)) :
    Calls Tryd.prog 10 #[.int .i64 x, .int .u64 (u : Int), .int .u16 (K : Int)] w fun e w' => e = .returned (.bool true) ∧ Below w.heap.size w w' := by
  have c1 := Below.refl w.heap.size w
  have mk := make20
  have q3 : IntKind.i64.wrap (K : Int) = (K : Int) := IntWalk.i64_in _ (by omega)
  have q4 : IntKind.i64.wrap (-1 - (K : Int)) = -1 - (K : Int) := IntWalk.i64_in _ (by omega)
  have HA : Hid (appV [1] u y = ([], 2)) := appV_arg HY.out
  have HF : Hid (fitsV u y = false) := by show fitsV u y = false; unfold fitsV; rw [HY.out]; rfl
  have HQ : Hid (uintV (List.replicate 20 0) (-1 - (K : Int)) y = (0, 2)) := uintV_arg HY.out
  have HR : Hid (uintV (List.replicate 20 0) (-1 - (K : Int)) 4 = (0, 3)) := uintV_range rfl (by omega)
  rcases h with ⟨h1, h2, rfl⟩ | ⟨h1, h2, h3, h4⟩ | ⟨h1, h2, h3, h4, h5⟩ | ⟨h1, h2, h3, h4, h5, h6⟩ | ⟨h1, h2, h3, h4, rfl⟩
  all_goals
    go_enter Tryd.func10, Tryd.ntmps10
    go_wp2_with fail
    refine (append_is _ [1] [] u _ _ 2 _ rfl (bytesAt_one _ 1 1 rfl _) (by decide) HU.out HA.out).mono ?_
    rintro e w2 ⟨v1, rfl, X1, b1⟩
    have c2 := (c1.alloc c1.size _).trans (b1.mono (by simp)); clear c1 b1
    have HX := Lib.hid X1
    obtain ⟨p, c, rfl, hc, hp⟩ := X1
    clear hp
    go_wp2_with fail
    refine (uint_is _ _ 0 0 _ _ 2 _ rfl (bytes_zero20 _ _ _) (by decide) HQ.out).mono ?_
    rintro e w3 ⟨rfl, b1⟩
    have c1 := (c2.alloc c2.size _).trans (b1.mono (by have := c2.size; simp; omega)); clear c2 b1
    go_wp2_with fail
    refine (uint_is _ _ 0 0 _ _ 3 _ rfl (bytes_zero20 _ _ _) (by decide) HR.out).mono ?_
    rintro e w4 ⟨rfl, b1⟩
    have c2 := (c1.alloc c1.size _).trans (b1.mono (by have := c1.size; simp; omega)); clear c1 b1
    go_wp2_with fail
    refine (fits_is u _ _ false _ rfl HU.out HF.out).mono ?_
    rintro e w5 ⟨rfl, b1⟩
    have c1 := c2.trans (b1.mono c2.size); clear c2 b1
    go_wp2_with fail
    refine (works_any _ (HT.out.below c1)).mono ?_
    rintro e w101 ⟨rfl, b1⟩
    have c2 := c1.trans (b1.mono c1.size); clear c1 b1
    have c1 := c2; clear c2
    go_wp2_with fail
    go_ret
    exact ⟨rfl, c1⟩

theorem walkCodecRefuses (x : Int) (hx : (Lit.int .i64 x).wf = true) (n : Int) (hn : (Lit.int .u64 n).wf = true) (a : Int) (ha : (Lit.int .u16 a).wf = true) (w : World) (ht : Tab w) :
    Calls Tryd.prog 10 #[.int .i64 x, .int .u64 n, .int .u16 a] w fun e w' => e = .returned (.bool true) ∧ Below w.heap.size w w' := by
  have hn2 : 0 ≤ n ∧ n < 18446744073709551616 := by have e1 : IntKind.u64.min = 0 := rfl; have e2 : IntKind.u64.max = 18446744073709551615 := rfl; simp [Lit.wf, e1, e2] at hn; omega
  have ha2 : 0 ≤ a ∧ a ≤ 65535 := by have e1 : IntKind.u16.min = 0 := rfl; have e2 : IntKind.u16.max = 65535 := rfl; simp [Lit.wf, e1, e2] at ha; omega
  obtain ⟨u, rfl⟩ : ∃ u : Nat, n = (u : Int) := ⟨n.toNat, by omega⟩
  obtain ⟨K, rfl⟩ : ∃ K : Nat, a = (K : Int) := ⟨a.toNat, by omega⟩
  have HU : Hid (u < 256 ^ 8) := by show u < 256 ^ 8; have : (256 : Nat) ^ 8 = 18446744073709551616 := by decide
                                    omega
  rcases isW_cases x with ⟨h1, h2⟩ | ⟨h1, h2⟩
  · have h : (x == 1) = false ∧ (x == 2) = false ∧ (x == 4) = false ∧ (x == 8) = false := by simp only [beq_eq_false_iff_ne]; omega
    exact refuses_on w x x u HU K (by omega) (Lib.hid ht) (Lib.hid h1) (Or.inr (Or.inr (Or.inr (Or.inr ⟨h.1, h.2.1, h.2.2.1, h.2.2.2, rfl⟩))))
  · rcases h2 with rfl | rfl | rfl | rfl
    · exact refuses_on w 1 3 u HU K (by omega) (Lib.hid ht) (Lib.hid rfl) (Or.inl ⟨rfl, by kernel_rfl, rfl⟩)
    · exact refuses_on w 2 3 u HU K (by omega) (Lib.hid ht) (Lib.hid rfl) (Or.inr (Or.inl ⟨by decide, rfl, by kernel_rfl, by decide⟩))
    · exact refuses_on w 4 5 u HU K (by omega) (Lib.hid ht) (Lib.hid rfl) (Or.inr (Or.inr (Or.inl ⟨by decide, by decide, rfl, by kernel_rfl, by decide⟩)))
    · exact refuses_on w 8 9 u HU K (by omega) (Lib.hid ht) (Lib.hid rfl) (Or.inr (Or.inr (Or.inr (Or.inl ⟨by decide, by decide, by decide, rfl, by kernel_rfl, by decide⟩))))
end Go.Proofs.YtmfdfpebbnagfaaDoor
