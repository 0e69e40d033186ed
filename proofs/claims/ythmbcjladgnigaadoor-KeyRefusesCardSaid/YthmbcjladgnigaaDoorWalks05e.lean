/-
  The walk of KeyRefuses.
  Conditions: the library's table lies in the world.
-/
import Derived.Test.YthmbcjladgnigaaDoorWalks05b
set_option linter.unusedVariables false
namespace Go.Proofs.YthmbcjladgnigaaDoor
open Go Go.RowKit

def a40 : ByteArray := ⟨(List.replicate 40 (97 : UInt8)).toArray⟩
/-- Three numbers in memory. -/
def ThreeAt (w : World) (B : Nat) (f : Nat → Int) : Prop := ∀ j, j < 3 → w.cell? ⟨B, j, none⟩ = some (.int .i64 (f j))
theorem ThreeAt.below {w w' : World} {B : Nat} {f : Nat → Int} (h : ThreeAt w B f) (hb : Below w.heap.size w w') : ThreeAt w' B f := fun j hj => by
  rw [hb.cell (p := ⟨B, j, none⟩) (World.block_lt_of_cell? w _ (h j hj)), h j hj]
theorem threeAt_new (w : World) (x y z : Int) (f : Nat → Int) (hx : f 0 = x) (hy : f 1 = y) (hz : f 2 = z) : ThreeAt (w.alloc (.cells #[.int .i64 x, .int .i64 y, .int .i64 z] 3)) w.heap.size f := fun j hj => by
  have hh : (w.alloc (.cells #[.int .i64 x, .int .i64 y, .int .i64 z] 3)).heap[w.heap.size]? = some (.cells #[.int .i64 x, .int .i64 y, .int .i64 z] 3) := by
    show (w.heap.push _)[w.heap.size]? = _
    simp
  rw [Lib.cell_of_heap hh]
  match j, hj with
  | 0, _ => rw [hx]; rfl
  | 1, _ => rw [hy]; rfl
  | 2, _ => rw [hz]; rfl
theorem repeat_a (n : Nat) : Lib.repeatL [97] n = List.replicate n 97 := by
  induction n with
  | zero => rfl
  | succ n ih => simp [Lib.repeatL, List.replicate_succ] at ih ⊢; exact ih
theorem all_a (n : Nat) : (List.replicate n (97 : UInt8)).all isKey = true := by
  rw [List.all_eq_true]
  intro x hx
  rw [List.eq_of_mem_replicate hx]
  decide +kernel
def g1 (M : Nat) (j : Nat) : Int := if j = 0 then -(M : Int) else if j = 1 then 33 + (M : Int) else -9223372036854775808
def g2 (M : Nat) (j : Nat) : Int := if j = 0 then -1 - (M : Int) else if j = 1 then 1000000 + (M : Int) else 9223372036854775807
theorem g1_out (M j : Nat) : g1 M j < 1 ∨ 32 < g1 M j := by unfold g1; split; · omega
                                                            split <;> omega
theorem g2_out (M j : Nat) : g2 M j < 0 ∨ 1000000 ≤ g2 M j := by unfold g2; split; · omega
                                                                 split <;> omega
theorem kfits_arg (l : List UInt8) (m : Int) (h : m < 1 ∨ 32 < m) : kfitsV l m = 2 := by unfold kfitsV; rw [if_pos h]
theorem name_range (n : Int) (h : n < 0 ∨ 1000000 ≤ n) : nameV n = ([], 3) := by unfold nameV; rw [if_pos h]

set_option maxRecDepth 100000 in
set_option maxHeartbeats 8000000 in
theorem walkKeyRefuses (a : Int) (ha : (Lit.int .u16 a).wf = true) (s : ByteArray) (hs : s.size ≤ maxLen) (w : World) (ht : Tab w) :
    Calls Tryd.prog 9 #[.int .u16 a, .string s] w fun e w' => e = .returned (.bool true) ∧ Below w.heap.size w w' := by
  have ha2 : 0 ≤ a ∧ a ≤ 65535 := by have e1 : IntKind.u16.min = 0 := rfl; have e2 : IntKind.u16.max = 65535 := rfl; simp [Lit.wf, e1, e2] at ha; omega
  obtain ⟨M, rfl⟩ : ∃ M : Nat, a = (M : Int) := ⟨a.toNat, by omega⟩
  have hM : M ≤ 65535 := by omega
  have HT := Lib.hid ht
  have c1 := Below.refl w.heap.size w
  have hneg : IntKind.i64.wrap (-(M : Int)) = -(M : Int) := IntWalk.i64_in _ (by omega)
  have hr100 : M % 100 < 100 := Nat.mod_lt _ (by decide)
  have hemod : ((M : Int)) % 100 = ((M % 100 : Nat) : Int) := by omega
  have htmod : ((M : Int)).tmod 100 = ((M % 100 : Nat) : Int) := by rw [Int.tmod_eq_emod_of_nonneg (by omega)]; omega
  clear ht ha ha2 hs
  go_enter Tryd.func9, Tryd.ntmps9
  go_wp2_with fail
  have HW := Lib.hid (threeAt_new w (-(M : Int)) (33 + (M : Int)) (-9223372036854775808) (g1 M) rfl rfl rfl)
  have c2 := c1.alloc c1.size (.cells #[.int .i64 (-(M : Int)), .int .i64 (33 + (M : Int)), .int .i64 (-9223372036854775808)] 3)
  go_loopw [25] (fun vi wr => ∃ j : Nat, j ≤ 3 ∧ vi = .int .i64 j ∧ Hid (ThreeAt wr w.heap.size (g1 M)) ∧ Below w.heap.size w wr) (fun vi _ => 3 - (intOf vi).toNat)
  case atStart => exact ⟨0, Nat.zero_le _, rfl, HW, c2⟩
  case round =>
    clear HW c1 c2
    obtain ⟨j, hj, rfl, hw, c1⟩ := hrel
    by_cases hlt : j < 3
    · have hcell := hw.out j hlt
      have HY := Lib.hid (g1_out M j)
      generalize g1 M j = y at *
      go_wp2_with fail
      refine (kfits_is ⟨#[]⟩ y 2 (by decide) (kfits_arg _ _ HY.out) _).mono ?_
      rintro e w2 ⟨rfl, b1⟩
      have hw2 := Lib.hid (hw.out.below b1)
      have c2 := c1.trans (b1.mono c1.size); clear hw c1 b1 hcell
      go_wp2_with fail
      refine (repeat_is _ a40 40 _ rfl (by decide +kernel) (by decide) (by decide) _).mono ?_
      rintro e w3 ⟨rfl, b1⟩
      have hw3 := Lib.hid (hw2.out.below b1)
      have c3 := c2.trans (b1.mono c2.size); clear hw2 c2 b1
      go_wp2_with fail
      refine (kfits_is a40 y 2 (by decide +kernel) (kfits_arg _ _ HY.out) _).mono ?_
      rintro e w4 ⟨rfl, b1⟩
      have hw4 := Lib.hid (hw3.out.below b1)
      have c4 := c3.trans (b1.mono c3.size); clear hw3 c3 b1
      go_wp2_with fail
      go_roundw
      case rel => exact ⟨j + 1, by omega, by go_num, hw4, c4⟩
      case measure => simp [intOf]; omega
    · obtain rfl : j = 3 := by omega
      clear hw
      have hsub : IntKind.i64.wrap (-1 - (M : Int)) = -1 - (M : Int) := IntWalk.i64_in _ (by omega)
      go_wp2_with fail
      have HW := Lib.hid (threeAt_new wr (-1 - (M : Int)) (1000000 + (M : Int)) 9223372036854775807 (g2 M) rfl rfl rfl)
      have c2 := c1.alloc c1.size (.cells #[.int .i64 (-1 - (M : Int)), .int .i64 (1000000 + (M : Int)), .int .i64 9223372036854775807] 3)
      clear hsub
      obtain ⟨wo, rfl⟩ : ∃ wo : World, wo = wr := ⟨_, rfl⟩
      go_loopw [45] (fun vi wr => ∃ j : Nat, j ≤ 3 ∧ vi = .int .i64 j ∧ Hid (ThreeAt wr wo.heap.size (g2 M)) ∧ Below w.heap.size w wr) (fun vi _ => 3 - (intOf vi).toNat)
      case atStart => exact ⟨0, Nat.zero_le _, rfl, HW, c2⟩
      case round =>
        clear HW c1 c2
        obtain ⟨j, hj, rfl, hw, c1⟩ := hrel
        by_cases hlt2 : j < 3
        · have hcell := hw.out j hlt2
          have HY := Lib.hid (g2_out M j)
          generalize g2 M j = y at *
          go_wp2_with fail
          refine (kname_is y ⟨#[]⟩ 3 (name_range _ HY.out) _ (HT.out.below c1)).mono ?_
          rintro e w2 ⟨rfl, b1⟩
          have hw2 := Lib.hid (hw.out.below b1)
          have c2 := c1.trans (b1.mono c1.size); clear hw c1 b1 hcell
          go_wp2_with fail
          go_roundw
          case rel =>
            repeat apply Exists.intro
            refine ⟨⟨j + 1, by omega, ?_, hw2, c2⟩, rfl⟩
            go_num
          case measure => simp [intOf]; omega
        · obtain rfl : j = 3 := by omega
          clear hw
          by_cases h300 : 300 < s.size
          · have d1 : decide ((300 : Int) < (s.size : Int)) = true := by rw [decide_eq_true_iff]; omega
            clear h300
            go_wp2_with fail
            go_wp2_with fail
            refine (works_any _ (HT.out.below c1)).mono ?_
            rintro e w101 ⟨rfl, b1⟩
            have c2 := c1.trans (b1.mono c1.size); clear c1 b1
            have c1 := c2; clear c2
            go_wp2_with fail
            go_ret
            exact ⟨rfl, c1⟩
          · have d1 : decide ((300 : Int) < (s.size : Int)) = false := by rw [decide_eq_false_iff_not]; omega
            have HS : Hid (s.size ≤ 1099511627776) := by show s.size ≤ 1099511627776; omega
            have hr9 : M % 100 ≤ 99 := by omega
            clear h300 hlt hlt2
            generalize M % 100 = r at *
            obtain ⟨L, hL⟩ : ∃ L : ByteArray, L.data.toList = List.replicate (33 + r) 97 := ⟨⟨(List.replicate (33 + r) 97).toArray⟩, rfl⟩
            obtain ⟨L2, hL2⟩ : ∃ L2 : ByteArray, (L ++ ⟨#[65]⟩ : ByteArray) = L2 := ⟨_, rfl⟩
            have hLs : L.size ≤ 132 := by rw [← str_len, hL, List.length_replicate]; omega
            have hone : (⟨#[65]⟩ : ByteArray).size = 1 := rfl
            have HL := Lib.hid hL
            have HLk : Hid (keyV L.data.toList = 12) := by show _ = _; rw [hL]; exact keyV_large (all_a _) (by rw [List.length_replicate]; omega)
            have HLn : Hid (nextV L.data.toList = ((⟨#[]⟩ : ByteArray).data.toList, false)) := by show _ = _; rw [nextV_no (by rw [HLk.out]; decide)]
            have hL2l : L2.data.toList = List.replicate (33 + r) 97 ++ [65] := by rw [← hL2]; simp [hL]
            have HL2k : Hid (keyV L2.data.toList = 2) := by
              show _ = _
              rw [hL2l]
              refine keyV_bad ?_
              rw [List.all_append, show ([65] : List UInt8).all isKey = false by decide +kernel, Bool.and_false]
            have HL2s : Hid (L2.size ≤ 1099511627776) := by
              show L2.size ≤ _
              rw [← str_len, hL2l, List.length_append, List.length_replicate, List.length_singleton]
              omega
            clear hL hL2l
            by_cases hk : keyV s.data.toList = 0
            · have HK := Lib.hid hk
              rcases next_tells hk with ⟨n1, n2, _⟩ | ⟨n1, n2, _⟩
              · obtain ⟨N, hN⟩ : ∃ N : ByteArray, nextV s.data.toList = (N.data.toList, true) := ⟨⟨(nextV s.data.toList).1.toArray⟩, by rw [← n1]⟩
                have HN := Lib.hid hN
                obtain ⟨e1, e2⟩ := str_beq s z32 false (by rw [z32_list]; exact ⟨fun h => absurd h n2, fun h => by cases h⟩)
                clear hk n1 n2 hN
                go_wp2_with fail
                go_wp2_with fail
                refine (repeat_is _ L (33 + r) _ (by omega) (by rw [HL.out]; exact repeat_a _) (by omega) (by decide) _).mono ?_
                rintro e w102 ⟨rfl, b1⟩
                have c2 := c1.trans (b1.mono c1.size); clear c1 b1
                have c1 := c2; clear c2
                go_wp2_with fail
                refine (knext_is L ⟨#[]⟩ false (by omega) HLn.out _).mono ?_
                rintro e w103 ⟨rfl, b1⟩
                have c2 := c1.trans (b1.mono c1.size); clear c1 b1
                have c1 := c2; clear c2
                go_wp2_with fail
                refine (knext_is s N true HS.out HN.out _).mono ?_
                rintro e w104 ⟨rfl, b1⟩
                have c2 := c1.trans (b1.mono c1.size); clear c1 b1
                have c1 := c2; clear c2
                go_wp2_with fail
                refine (kcheck_is L 12 (by omega) HLk.out _).mono ?_
                rintro e w105 ⟨rfl, b1⟩
                have c2 := c1.trans (b1.mono c1.size); clear c1 b1
                have c1 := c2; clear c2
                go_wp2_with fail
                refine (kcheck_is L2 2 HL2s.out HL2k.out _).mono ?_
                rintro e w106 ⟨rfl, b1⟩
                have c2 := c1.trans (b1.mono c1.size); clear c1 b1
                have c1 := c2; clear c2
                go_wp2_with fail
                refine (kcheck_is s 0 HS.out HK.out _).mono ?_
                rintro e w107 ⟨rfl, b1⟩
                have c2 := c1.trans (b1.mono c1.size); clear c1 b1
                have c1 := c2; clear c2
                go_wp2_with fail
                refine (repeat_is _ z32 32 _ rfl (by decide +kernel) (by decide) (by decide) _).mono ?_
                rintro e w108 ⟨rfl, b1⟩
                have c2 := c1.trans (b1.mono c1.size); clear c1 b1
                have c1 := c2; clear c2
                go_wp2_with fail
                refine (works_any _ (HT.out.below c1)).mono ?_
                rintro e w109 ⟨rfl, b1⟩
                have c2 := c1.trans (b1.mono c1.size); clear c1 b1
                have c1 := c2; clear c2
                go_wp2_with fail
                go_ret
                exact ⟨rfl, c1⟩
              · have HN : Hid (nextV s.data.toList = ((⟨#[]⟩ : ByteArray).data.toList, false)) := n1
                obtain ⟨e1, e2⟩ := str_beq s z32 true (by rw [z32_list]; exact ⟨fun _ => rfl, fun _ => n2⟩)
                clear hk n1 n2
                go_wp2_with fail
                go_wp2_with fail
                refine (repeat_is _ L (33 + r) _ (by omega) (by rw [HL.out]; exact repeat_a _) (by omega) (by decide) _).mono ?_
                rintro e w110 ⟨rfl, b1⟩
                have c2 := c1.trans (b1.mono c1.size); clear c1 b1
                have c1 := c2; clear c2
                go_wp2_with fail
                refine (knext_is L ⟨#[]⟩ false (by omega) HLn.out _).mono ?_
                rintro e w111 ⟨rfl, b1⟩
                have c2 := c1.trans (b1.mono c1.size); clear c1 b1
                have c1 := c2; clear c2
                go_wp2_with fail
                refine (knext_is s ⟨#[]⟩ false HS.out HN.out _).mono ?_
                rintro e w112 ⟨rfl, b1⟩
                have c2 := c1.trans (b1.mono c1.size); clear c1 b1
                have c1 := c2; clear c2
                go_wp2_with fail
                refine (kcheck_is L 12 (by omega) HLk.out _).mono ?_
                rintro e w113 ⟨rfl, b1⟩
                have c2 := c1.trans (b1.mono c1.size); clear c1 b1
                have c1 := c2; clear c2
                go_wp2_with fail
                refine (kcheck_is L2 2 HL2s.out HL2k.out _).mono ?_
                rintro e w114 ⟨rfl, b1⟩
                have c2 := c1.trans (b1.mono c1.size); clear c1 b1
                have c1 := c2; clear c2
                go_wp2_with fail
                refine (kcheck_is s 0 HS.out HK.out _).mono ?_
                rintro e w115 ⟨rfl, b1⟩
                have c2 := c1.trans (b1.mono c1.size); clear c1 b1
                have c1 := c2; clear c2
                go_wp2_with fail
                refine (repeat_is _ z32 32 _ rfl (by decide +kernel) (by decide) (by decide) _).mono ?_
                rintro e w116 ⟨rfl, b1⟩
                have c2 := c1.trans (b1.mono c1.size); clear c1 b1
                have c1 := c2; clear c2
                go_wp2_with fail
                refine (works_any _ (HT.out.below c1)).mono ?_
                rintro e w117 ⟨rfl, b1⟩
                have c2 := c1.trans (b1.mono c1.size); clear c1 b1
                have c1 := c2; clear c2
                go_wp2_with fail
                go_ret
                exact ⟨rfl, c1⟩
            · have HN : Hid (nextV s.data.toList = ((⟨#[]⟩ : ByteArray).data.toList, false)) := nextV_no hk
              obtain ⟨x, hx⟩ : ∃ x, keyV s.data.toList = x := ⟨_, rfl⟩
              have HX := Lib.hid hx
              have hx0 : (x == 0) = false := by rw [beq_eq_false_iff_ne, ← hx]; exact hk
              clear hk hx
              go_wp2_with fail
              go_wp2_with fail
              refine (repeat_is _ L (33 + r) _ (by omega) (by rw [HL.out]; exact repeat_a _) (by omega) (by decide) _).mono ?_
              rintro e w118 ⟨rfl, b1⟩
              have c2 := c1.trans (b1.mono c1.size); clear c1 b1
              have c1 := c2; clear c2
              go_wp2_with fail
              refine (knext_is L ⟨#[]⟩ false (by omega) HLn.out _).mono ?_
              rintro e w119 ⟨rfl, b1⟩
              have c2 := c1.trans (b1.mono c1.size); clear c1 b1
              have c1 := c2; clear c2
              go_wp2_with fail
              refine (knext_is s ⟨#[]⟩ false HS.out HN.out _).mono ?_
              rintro e w120 ⟨rfl, b1⟩
              have c2 := c1.trans (b1.mono c1.size); clear c1 b1
              have c1 := c2; clear c2
              go_wp2_with fail
              refine (kcheck_is L 12 (by omega) HLk.out _).mono ?_
              rintro e w121 ⟨rfl, b1⟩
              have c2 := c1.trans (b1.mono c1.size); clear c1 b1
              have c1 := c2; clear c2
              go_wp2_with fail
              refine (kcheck_is L2 2 HL2s.out HL2k.out _).mono ?_
              rintro e w122 ⟨rfl, b1⟩
              have c2 := c1.trans (b1.mono c1.size); clear c1 b1
              have c1 := c2; clear c2
              go_wp2_with fail
              refine (kcheck_is s x HS.out HX.out _).mono ?_
              rintro e w123 ⟨rfl, b1⟩
              have c2 := c1.trans (b1.mono c1.size); clear c1 b1
              have c1 := c2; clear c2
              go_wp2_with fail
              refine (works_any _ (HT.out.below c1)).mono ?_
              rintro e w124 ⟨rfl, b1⟩
              have c2 := c1.trans (b1.mono c1.size); clear c1 b1
              have c1 := c2; clear c2
              go_wp2_with fail
              go_ret
              exact ⟨rfl, c1⟩
end Go.Proofs.YthmbcjladgnigaaDoor
