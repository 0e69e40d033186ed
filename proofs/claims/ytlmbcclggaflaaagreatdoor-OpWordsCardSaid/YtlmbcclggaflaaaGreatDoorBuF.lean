/-
  The reference of layer 39: Parse.
  What Plan computes, of the program and of the reference.
  Plain Lean: scripts and their strings, line by line.
  What strings.Builder's copyCheck, WriteByte and WriteString do at a builder that the call itself has made: the bytes are appended.
  What PrintAll computes.
  What PrintAll computes.
  Plain Lean: the lines of a script, as the reference goes through its bytes.
  Slices of strings, by natural numbers.
  The reference of layer 39: ParseAll.
  What ParseAll computes: the round of its loop, in memory; plain.
  What ParseAll computes.
  Conditions: as each theorem says (bytes: at most 100,000; the library's tables and variables lie in the world).
-/
import Derived.Test.YtlmbcclggaflaaaGreatDoorBuE
import Derived.Test.YtlmbcclggaflaaaGreatDoorBuB
import Derived.Lib.Strings
import Derived.Lib.Slices
import Derived.Lib.Walk
import Derived.Lib.Builder
import Derived.Lib.AppendStr
import Derived.Lib.UnsafeStr
import Derived.WalkKit
import Derived.Laws.Externs
import Derived.Laws.IdiomCopy
import Derived.Laws.BitsLemmas
import Derived.Test.YtlmbcclggaflaaaGreatDoorProg
import Derived.Test.YtlmbcclggaflaaaGreatDoorBuA
import Derived.WalkLawsBesides
import Derived.WalkSpells
import Derived.OwnWalk
import Derived.RangeFuncBox
import Derived.RangeFuncBound
import Derived.RangeFuncCalls
import Derived.TacticsInMore
import Derived.LoopNIn
import Derived.OwnWalkIn
import Derived.Shelf.RegionOpen
set_option linter.unusedVariables false
namespace Go.Proofs.YtlmbcclggaflaaaGreatDoor
open Go Go.RowKit

/-- The kind that has been found among the first ones. -/
def kjL (l : List UInt8) (i : Nat) : Int := if kindL l < (i : Int) then kindL l else 0
theorem kind_range (l : List UInt8) : kindL l = 0 ∨ (1 ≤ kindL l ∧ kindL l ≤ 8 ∧ wordL (kindL l) = l) := by
  unfold kindL
  split
  · rename_i h; exact Or.inr ⟨by decide, by decide, h.symm⟩
  split
  · rename_i h; exact Or.inr ⟨by decide, by decide, h.symm⟩
  split
  · rename_i h; exact Or.inr ⟨by decide, by decide, h.symm⟩
  split
  · rename_i h; exact Or.inr ⟨by decide, by decide, h.symm⟩
  split
  · rename_i h; exact Or.inr ⟨by decide, by decide, h.symm⟩
  split
  · rename_i h; exact Or.inr ⟨by decide, by decide, h.symm⟩
  split
  · rename_i h; exact Or.inr ⟨by decide, by decide, h.symm⟩
  split
  · rename_i h; exact Or.inr ⟨by decide, by decide, h.symm⟩
  · exact Or.inl rfl
theorem kj_one (l : List UInt8) : kjL l 1 = 0 := by
  unfold kjL
  rcases kind_range l with h | ⟨h, _⟩
  · rw [h]; rfl
  · rw [if_neg (by omega)]
theorem kj_nine (l : List UInt8) : kjL l 9 = kindL l := by
  unfold kjL
  rcases kind_range l with h | ⟨_, h, _⟩
  · rw [h]; rfl
  · rw [if_pos (by omega)]
theorem kj_hit {l : List UInt8} {i : Nat} (h0 : 1 ≤ i) (h1 : i ≤ 8) (h : wordL (i : Int) = l) : kjL l (i + 1) = (i : Int) := by
  have : kindL l = (i : Int) := by
    rw [← h]
    exact kind_word _ (by omega) (by omega)
  unfold kjL
  rw [this, if_pos (by omega)]
theorem kj_miss {l : List UInt8} {i : Nat} (h0 : 1 ≤ i) (h : wordL (i : Int) ≠ l) : kjL l (i + 1) = kjL l i := by
  unfold kjL
  rcases kind_range l with h2 | ⟨h2, h3, h4⟩
  · rw [h2, if_pos (by omega), if_pos (by omega)]
  · have : kindL l ≠ (i : Int) := fun e => h (by rw [← e]; exact h4)
    by_cases h5 : kindL l < (i : Int)
    · rw [if_pos h5, if_pos (by omega)]
    · rw [if_neg h5, if_neg (by omega)]
theorem OpBox.set0 {w : World} {B : Nat} {k a b : Int} {x v : ByteArray} (h : OpBox w B k a b x v) (c : Int) : OpBox (w.setCell ⟨B, 0, none⟩ (.int .i64 c)) B c a b x v := by
  obtain ⟨⟨h0, h1, h2, h3, h4⟩, hf⟩ := h
  have hne : ∀ i : Nat, i ≠ 0 → (⟨B, i, none⟩ : Addr) ≠ ⟨B, 0, none⟩ := fun i hij he => by injection he with e1 e2; exact hij e2
  exact ⟨⟨World.cell?_setCell_same w ⟨B, 0, none⟩ _ h0, by rw [World.cell?_setCell_other (h := Ne.symm (hne 1 (by decide)))]; exact h1, by rw [World.cell?_setCell_other (h := Ne.symm (hne 2 (by decide)))]; exact h2, by rw [World.cell?_setCell_other (h := Ne.symm (hne 3 (by decide)))]; exact h3, by rw [World.cell?_setCell_other (h := Ne.symm (hne 4 (by decide)))]; exact h4⟩, fun j => by rw [World.frozen?_setCell]; exact hf j⟩
theorem ext_ofR {l : List UInt8} {o : OpD} (h : extR l = o) : Ext l o := by rw [← h]; exact extR_ext l
set_option maxRecDepth 100000 in
set_option maxHeartbeats 4000000 in
theorem rparse39_any (s : ByteArray) (hs : s.size ≤ 100000) (w : World) :
    Calls Tryz.prog 29 #[.string s] w fun e w' => e = .returned (.tuple #[opV (opP s.data.toList), .int .i64 (opPE s.data.toList)]) ∧ Below w.heap.size w w' := by
  have HS := Lib.hid hs
  obtain ⟨X, hX⟩ : ∃ X, pack (hdL 32 s.data.toList) = X := ⟨_, rfl⟩
  obtain ⟨R, hR⟩ : ∃ R, pack (tlL 32 s.data.toList) = R := ⟨_, rfl⟩
  have hcut := rcut_any s (by omega)
  rw [hX, hR] at hcut
  have hRs : R.size ≤ 100000 := by
    rw [← hR, pack_size]
    have h1 := tl_le 32 s.data.toList
    rw [str_len] at h1
    omega
  obtain ⟨X2, hX2⟩ : ∃ X2, pack (hdL 32 R.data.toList) = X2 := ⟨_, rfl⟩
  obtain ⟨R2, hR2⟩ : ∃ R2, pack (tlL 32 R.data.toList) = R2 := ⟨_, rfl⟩
  have hcut2 := rcut_any R (by omega)
  rw [hX2, hR2] at hcut2
  have HCUT := Lib.hid hcut
  have HCUT2 := Lib.hid hcut2
  have HXR := Lib.hid (And.intro hX hR)
  have HXR2 := Lib.hid (And.intro hX2 hR2)
  have HRs := Lib.hid hRs
  clear hcut hX hR hs hcut2 hX2 hR2 hRs
  have c0 := Lib.hid ((Below.refl w.heap.size w).alloc (Nat.le_refl _) (.cells #[.int .i64 0, .int .i64 0, .int .i64 0, .string ⟨#[]⟩, .string ⟨#[]⟩] 28))
  have HR0 := Lib.hid (OpBox.new w 0 0 0 ⟨#[]⟩ ⟨#[]⟩ 28)
  go_enter Tryz.func29, Tryz.ntmps29
  go_wp2_with fail
  generalize (w.alloc (.cells #[.int .i64 0, .int .i64 0, .int .i64 0, .string ⟨#[]⟩, .string ⟨#[]⟩] 28)) = w0 at *
  refine (HCUT.out _).mono ?_
  rintro e w1 ⟨rfl, b1⟩
  have a2 := (Below.refl w1.heap.size w1).alloc (Nat.le_refl _) (.cells #[.int .i64 0, .int .i64 0, .int .i64 0, .string ⟨#[]⟩, .string ⟨#[]⟩] 28)
  have HO := Lib.hid (OpBox.new w1 0 0 0 ⟨#[]⟩ ⟨#[]⟩ 28)
  have HR2 := Lib.hid ((HR0.out.below b1).below a2)
  have c2 := Lib.hid ((c0.out.trans (b1.mono c0.out.size)).trans (a2.mono (Nat.le_trans c0.out.size b1.size)))
  have HLT : Hid (w.heap.size < w1.heap.size) := (HR0.out.below b1).lt
  clear a2 b1 HR0 c0
  go_wp2_with fail
  generalize (w1.alloc (.cells #[.int .i64 0, .int .i64 0, .int .i64 0, .string ⟨#[]⟩, .string ⟨#[]⟩] 28)) = w2 at *
  obtain ⟨B, hB⟩ : ∃ B, w1.heap.size = B := ⟨_, rfl⟩
  rw [hB] at HO HLT
  rw [hB]
  clear hB
  have HXl : Hid (X.data.toList = hdL 32 s.data.toList) := by
    show _ = _
    rw [← HXR.out.1, pack_data]
  go_loopw [7] (fun s7 wr => ∃ i : Nat, 1 ≤ i ∧ i ≤ 9 ∧ s7 = .int .i64 i ∧ Hid (OpBox wr B (kjL X.data.toList i) 0 0 ⟨#[]⟩ ⟨#[]⟩) ∧ Hid (OpBox wr w.heap.size 0 0 0 ⟨#[]⟩ ⟨#[]⟩) ∧ Hid (Below w.heap.size w wr)) (fun s7 _ => 9 - (intOf s7).toNat)
  case atStart => exact ⟨1, by decide, by decide, rfl, by rw [kj_one]; exact HO, HR2, c2⟩
  case round =>
    obtain ⟨i, hi1, hi9, rfl, HOr, HRr, cr⟩ := hrel
    clear HO HR2 c2
    by_cases hlt : i ≤ 8
    · have d0 : decide ((i : Int) ≤ 8) = true := by rw [decide_eq_true_iff]; omega
      have hsum : IntKind.i64.wrap ((i : Int) + 1) = (i : Int) + 1 := IntWalk.i64_in _ (by omega)
      obtain ⟨W, hW⟩ : ∃ W, pack (wordL (i : Int)) = W := ⟨_, rfl⟩
      obtain ⟨y, hy⟩ : ∃ y, (W.toList == X.toList) = y := ⟨_, rfl⟩
      have HWY := Lib.hid (And.intro hW hy)
      clear hW
      go_wp2_with fail
      refine (rword_any (i : Int) _).mono ?_
      rw [HWY.out.1]
      rintro e w3 ⟨rfl, b3⟩
      have HO3 := Lib.hid (HOr.out.below b3)
      have HR3 := Lib.hid (HRr.out.below b3)
      have c3 := Lib.hid (cr.out.trans (b3.mono cr.out.size))
      clear b3 HOr HRr cr
      obtain ⟨⟨k0, k1, k2, k3, k4⟩, kf⟩ := HO3.out
      have kf0 := kf 0
      clear kf k1 k2 k3 k4
      cases y with
      | true =>
        have hw : wordL (i : Int) = X.data.toList := by
          have h := HWY.out.2
          rw [beq_iff_eq, ByteArray.toList_eq, ByteArray.toList_eq, ← HWY.out.1, pack_data] at h
          exact h
        have HKJ := Lib.hid (kj_hit hi1 hlt hw)
        have HO4 := Lib.hid (HO3.out.set0 (i : Int))
        have HR4 := Lib.hid (HR3.out.block (Below.heap_setCell w3 ⟨B, 0, none⟩ (.int .i64 (i : Int)) w.heap.size (Nat.ne_of_lt HLT.out)))
        have c4 := Lib.hid (below_set c3.out B (Nat.le_of_lt HLT.out) 0 (.int .i64 (i : Int)))
        clear hw
        go_wp2_with fail
        go_roundw
        case rel => exact ⟨i + 1, by omega, by omega, by go_num, by rw [HKJ.out]; exact HO4, HR4, c4⟩
        case measure => simp [intOf]; omega
      | false =>
        have hw : wordL (i : Int) ≠ X.data.toList := fun e2 => by
          have h := HWY.out.2
          rw [str_same (by rw [← HWY.out.1, pack_data, e2])] at h
          cases h
        have HKJ := Lib.hid (kj_miss hi1 hw)
        clear hw
        go_wp2_with fail
        go_roundw
        case rel => exact ⟨i + 1, by omega, by omega, by go_num, by rw [HKJ.out]; exact HO3, HR3, c3⟩
        case measure => simp [intOf]; omega
    · obtain rfl : i = 9 := by omega
      have HO4 : Hid (OpBox wr B (kindL X.data.toList) 0 0 ⟨#[]⟩ ⟨#[]⟩) := by
        have h := HOr.out
        rw [kj_nine] at h
        exact h
      clear HOr hlt hi1 hi9
      go_wp2_with fail
      refine (HCUT2.out _).mono ?_
      rintro e w5 ⟨rfl, b5⟩
      have HO5 := Lib.hid (HO4.out.below b5)
      have HR5 := Lib.hid (HRr.out.below b5)
      have c5 := Lib.hid (cr.out.trans (b5.mono cr.out.size))
      clear b5 HO4 HRr cr
      obtain ⟨K, hK⟩ : ∃ K, kindL X.data.toList = K := ⟨_, rfl⟩
      rw [hK] at HO5
      have HK := Lib.hid hK
      clear hK
      obtain ⟨⟨k0, k1, k2, k3, k4⟩, kf⟩ := HO5.out
      clear kf k1 k2 k3 k4
      have HRl : Hid (R.data.toList = tlL 32 s.data.toList) := by
        show _ = _
        rw [← HXR.out.2, pack_data]
      have HR2l : Hid (R2.data.toList = tlL 32 (tlL 32 s.data.toList)) := by
        show _ = _
        rw [← HXR2.out.2, pack_data, HRl.out]
      have HX2e : Hid (pack (hdL 32 (tlL 32 s.data.toList)) = X2) := by
        show _ = _
        rw [← HRl.out]
        exact HXR2.out.1
      have HX2s : Hid (X2.size ≤ 100000) := by
        show _ ≤ _
        rw [← HXR2.out.1, pack_size]
        have h1 := hd_le 32 R.data.toList
        have h2 := HRs.out
        rw [str_len] at h1
        omega
      have HR2s : Hid (R2.size ≤ 100000) := by
        show _ ≤ _
        rw [← HXR2.out.2, pack_size]
        have h1 := tl_le 32 R.data.toList
        have h2 := HRs.out
        rw [str_len] at h1
        omega
      go_upto_block 2 with fail
      go_cut [10, 11, 12] from 38 to 86 (fun _ _ _ wx => ∃ o : OpD, Hid (Ext s.data.toList o ∧ o.key.size ≤ 100000 ∧ o.val.size ≤ 100000) ∧ Hid (OpBox wx B o.kind o.a o.b o.key o.val) ∧ Hid (OpBox wx w.heap.size 0 0 0 ⟨#[]⟩ ⟨#[]⟩) ∧ Hid (Below w.heap.size w wx))
      case first =>
        have hki := HK.out
        rw [HXl.out] at hki
        have hkr := kind_range (hdL 32 s.data.toList)
        rw [hki] at hkr
        have HKI := Lib.hid hki
        clear hki k0
        obtain ⟨⟨k0, k1, k2, k3, k4⟩, kf⟩ := HO5.out
        have kf0 := kf 0
        have kf1 := kf 1
        have kf2 := kf 2
        have kf3 := kf 3
        have kf4 := kf 4
        clear kf
        rcases hkr with h0 | ⟨h1, h2, h3⟩
        · subst h0
          have HXO : Hid (Ext s.data.toList ⟨0, 0, 0, eB, eB⟩ ∧ eB.size ≤ 100000 ∧ eB.size ≤ 100000) := by
            refine ⟨ext_ofR ?_, by decide, by decide⟩
            unfold extR extP
            rw [HKI.out]
            rfl
          go_wp2_with fail
          go_meet
          exact ⟨⟨0, 0, 0, eB, eB⟩, HXO, HO5, HR5, c5⟩
        · clear h3
          rcases (show K = 1 ∨ K = 2 ∨ K = 3 ∨ K = 4 ∨ K = 5 ∨ K = 6 ∨ K = 7 ∨ K = 8 by omega) with rfl | rfl | rfl | rfl | rfl | rfl | rfl | rfl
          · clear h1 h2
            have HXO : Hid (Ext s.data.toList ⟨1, 0, 0, X2, pack (parseV R2.data.toList).1⟩ ∧ X2.size ≤ 100000 ∧ (pack (parseV R2.data.toList).1).size ≤ 100000) := by
              refine ⟨ext_ofR ?_, HX2s.out, pack_le (Nat.le_trans (parseV_len _) (by decide))⟩
              unfold extR extP
              rw [HKI.out, if_neg (by decide), if_pos rfl, HX2e.out, HR2l.out]
            obtain ⟨V, hV⟩ : ∃ V, pack (parseV R2.data.toList).1 = V := ⟨_, rfl⟩
            obtain ⟨E, hE⟩ : ∃ E, (parseV R2.data.toList).2 = E := ⟨_, rfl⟩
            have hpv : ∀ w, Calls Tryz.prog 72 #[.string R2] w fun e w' => e = .returned (.tuple #[.string V, .int .i64 E]) ∧ Below w.heap.size w w' := by
              intro w
              have h := vrparse_any R2 w (by have := HR2s.out; omega)
              rw [← hV, ← hE]
              exact h
            rw [hV] at HXO
            have HPV := Lib.hid hpv
            clear hpv hV hE
            have H6 := Lib.hid (HO5.out.set3 X2)
            have R6 := Lib.hid (HR5.out.block (Below.heap_setCell w5 ⟨B, 3, none⟩ (.string X2) w.heap.size (Nat.ne_of_lt HLT.out)))
            have c6 := Lib.hid (below_set c5.out B (Nat.le_of_lt HLT.out) 3 (.string X2))
            go_upto_region 12 with fail
            generalize w5.setCell ⟨B, 3, none⟩ (.string X2) = w6 at *
            clear k0 k1 k2 k3 k4 kf0 kf1 kf2 kf3 kf4 HO5 HR5 c5
            go_wp2_with fail
            refine (HPV.out _).mono ?_
            rintro e w7 ⟨rfl, b7⟩
            have H7 := H6.out.below b7
            have H8 := Lib.hid (H7.set4 V)
            have R8 := Lib.hid ((R6.out.below b7).block (Below.heap_setCell w7 ⟨B, 4, none⟩ (.string V) w.heap.size (Nat.ne_of_lt HLT.out)))
            have c8 := Lib.hid (below_set (c6.out.trans (b7.mono c6.out.size)) B (Nat.le_of_lt HLT.out) 4 (.string V))
            obtain ⟨⟨k0, k1, k2, k3, k4⟩, kf⟩ := H7
            have kf4 := kf 4
            clear kf b7
            go_wp2_with fail
            go_meet
            exact ⟨⟨1, 0, 0, X2, V⟩, HXO, H8, R8, c8⟩
          · clear h1 h2
            have HXO : Hid (Ext s.data.toList ⟨2, 0, 0, R, eB⟩ ∧ R.size ≤ 100000 ∧ eB.size ≤ 100000) := by
              refine ⟨ext_ofR ?_, HRs.out, by decide⟩
              unfold extR extP
              rw [HKI.out, HXR.out.2]
              rfl
            have H6 := Lib.hid (HO5.out.set3 R)
            have R6 := Lib.hid (HR5.out.block (Below.heap_setCell w5 ⟨B, 3, none⟩ (.string R) w.heap.size (Nat.ne_of_lt HLT.out)))
            have c6 := Lib.hid (below_set c5.out B (Nat.le_of_lt HLT.out) 3 (.string R))
            go_wp2_with fail
            go_meet
            exact ⟨⟨2, 0, 0, R, eB⟩, HXO, H6, R6, c6⟩
          · clear h1 h2
            have HXO : Hid (Ext s.data.toList ⟨3, 0, 0, R, eB⟩ ∧ R.size ≤ 100000 ∧ eB.size ≤ 100000) := by
              refine ⟨ext_ofR ?_, HRs.out, by decide⟩
              unfold extR extP
              rw [HKI.out, HXR.out.2]
              rfl
            have H6 := Lib.hid (HO5.out.set3 R)
            have R6 := Lib.hid (HR5.out.block (Below.heap_setCell w5 ⟨B, 3, none⟩ (.string R) w.heap.size (Nat.ne_of_lt HLT.out)))
            have c6 := Lib.hid (below_set c5.out B (Nat.le_of_lt HLT.out) 3 (.string R))
            go_wp2_with fail
            go_meet
            exact ⟨⟨3, 0, 0, R, eB⟩, HXO, H6, R6, c6⟩
          · clear h1 h2
            have HXO : Hid (Ext s.data.toList ⟨4, 0, 0, eB, eB⟩ ∧ eB.size ≤ 100000 ∧ eB.size ≤ 100000) := by
              refine ⟨ext_ofR ?_, by decide, by decide⟩
              unfold extR extP
              rw [HKI.out]
              rfl
            go_wp2_with fail
            go_meet
            exact ⟨⟨4, 0, 0, eB, eB⟩, HXO, HO5, HR5, c5⟩
          · clear h1 h2
            have HXO : Hid (Ext s.data.toList ⟨5, 0, 0, eB, eB⟩ ∧ eB.size ≤ 100000 ∧ eB.size ≤ 100000) := by
              refine ⟨ext_ofR ?_, by decide, by decide⟩
              unfold extR extP
              rw [HKI.out]
              rfl
            go_wp2_with fail
            go_meet
            exact ⟨⟨5, 0, 0, eB, eB⟩, HXO, HO5, HR5, c5⟩
          · clear h1 h2
            obtain ⟨y1, hy1⟩ : ∃ y1, (R.toList == [103, 114, 101, 101, 100, 121]) = y1 := ⟨_, rfl⟩
            obtain ⟨y2, hy2⟩ : ∃ y2, (R.toList == [98, 101, 110, 101, 102, 105, 116]) = y2 := ⟨_, rfl⟩
            have hz1 : (R.toList == greedyS.toList) = y1 := by rw [show greedyS.toList = [103, 114, 101, 101, 100, 121] by rw [ByteArray.toList_eq]]; exact hy1
            have hz2 : (R.toList == benefitS.toList) = y2 := by rw [show benefitS.toList = [98, 101, 110, 101, 102, 105, 116] by rw [ByteArray.toList_eq]]; exact hy2
            have HPA : Hid (polA R.data.toList = if y2 = true then 2 else if y1 = true then 1 else 0) := by
              show _ = _
              rw [← hy1, ← hy2, ByteArray.toList_eq]
              unfold polA
              by_cases e1 : R.data.toList = polL 1
              · rw [if_pos e1, e1]
                decide
              · by_cases e2 : R.data.toList = polL 2
                · rw [if_neg e1, if_pos e2, e2]
                  decide
                · have e1' : (R.data.toList == [103, 114, 101, 101, 100, 121]) = false := beq_false_of_ne e1
                  have e2' : (R.data.toList == [98, 101, 110, 101, 102, 105, 116]) = false := beq_false_of_ne e2
                  rw [if_neg e1, if_neg e2, e1', e2']
                  rfl
            have HXO : Hid (Ext s.data.toList ⟨6, polA R.data.toList, 0, eB, eB⟩ ∧ eB.size ≤ 100000 ∧ eB.size ≤ 100000) := by
              refine ⟨ext_ofR ?_, by decide, by decide⟩
              unfold extR extP
              rw [HKI.out, if_neg (by decide), if_neg (by decide), if_neg (by decide), if_neg (by decide), if_pos rfl, HRl.out]
            clear k0 k1 k2 k3 k4 kf0 kf1 kf2 kf3 kf4
            go_wp2_with fail
            go_loopw [10] (fun s10 wr => ∃ (i : Nat) (A : Int), 1 ≤ i ∧ i ≤ 3 ∧ s10 = .int .i64 i ∧ Hid (A = if i = 1 then 0 else if i = 2 then (if y1 = true then 1 else 0) else (if y2 = true then 2 else if y1 = true then 1 else 0)) ∧ Hid (OpBox wr B 6 A 0 ⟨#[]⟩ ⟨#[]⟩) ∧ Hid (OpBox wr w.heap.size 0 0 0 ⟨#[]⟩ ⟨#[]⟩) ∧ Hid (Below w.heap.size w wr)) (fun s10 _ => 3 - (intOf s10).toNat)
            case atStart => exact ⟨1, 0, by decide, by decide, rfl, rfl, HO5, HR5, c5⟩
            case round =>
              obtain ⟨i, A, hi1, hi3, rfl, hA, HOr, HRr, cr⟩ := hrel
              clear HO5 HR5 c5
              rcases (show i = 1 ∨ i = 2 ∨ i = 3 by omega) with rfl | rfl | rfl
              · skip
                have d0 : decide ((1 : Int) ≤ 2) = true := by decide
                have a3 := (Below.refl wr.heap.size wr).alloc (Nat.le_refl _) (.cells #[.string greedyS, .string benefitS] 9)
                have HO3 := Lib.hid (HOr.out.below a3)
                have HR3 := Lib.hid (HRr.out.below a3)
                have c3 := Lib.hid (cr.out.trans (a3.mono cr.out.size))
                obtain ⟨⟨k0, k1, k2, k3, k4⟩, kf⟩ := HO3.out
                have kf1 := kf 1
                clear kf a3
                have HT4 : Hid (y1 = true → (1 : Int) = if 2 = 1 then 0 else if 2 = 2 then (if y1 = true then 1 else 0) else (if y2 = true then 2 else if y1 = true then 1 else 0)) := by
                  intro h
                  rw [h]
                  rfl
                have HF4 : Hid (y1 = false → A = if 2 = 1 then 0 else if 2 = 2 then (if y1 = true then 1 else 0) else (if y2 = true then 2 else if y1 = true then 1 else 0)) := by
                  intro h
                  rw [hA.out, h]
                  rfl
                cases y1 with
                | true =>
                  have HA4 := Lib.hid (HT4.out rfl)
                  have HO4 := Lib.hid (HO3.out.set1 1)
                  have HR4 := Lib.hid (HR3.out.block (Below.heap_setCell (wr.alloc (.cells #[.string greedyS, .string benefitS] 9)) ⟨B, 1, none⟩ (.int .i64 1) w.heap.size (Nat.ne_of_lt HLT.out)))
                  have c4 := Lib.hid (below_set c3.out B (Nat.le_of_lt HLT.out) 1 (.int .i64 1))
                  go_wp2_with fail
                  go_roundw
                  case rel => exact ⟨2, 1, by decide, by decide, by go_num, HA4, HO4, HR4, c4⟩
                  case measure => simp [intOf]
                | false =>
                  have HA4 := Lib.hid (HF4.out rfl)
                  go_wp2_with fail
                  go_roundw
                  case rel => exact ⟨2, A, by decide, by decide, by go_num, HA4, HO3, HR3, c3⟩
                  case measure => simp [intOf]
              · skip
                have d0 : decide ((2 : Int) ≤ 2) = true := by decide
                have a3 := (Below.refl wr.heap.size wr).alloc (Nat.le_refl _) (.cells #[.string greedyS, .string benefitS] 9)
                have HO3 := Lib.hid (HOr.out.below a3)
                have HR3 := Lib.hid (HRr.out.below a3)
                have c3 := Lib.hid (cr.out.trans (a3.mono cr.out.size))
                obtain ⟨⟨k0, k1, k2, k3, k4⟩, kf⟩ := HO3.out
                have kf1 := kf 1
                clear kf a3
                have HT4 : Hid (y2 = true → (2 : Int) = if 3 = 1 then 0 else if 3 = 2 then (if y1 = true then 1 else 0) else (if y2 = true then 2 else if y1 = true then 1 else 0)) := by
                  intro h
                  rw [h]
                  rfl
                have HF4 : Hid (y2 = false → A = if 3 = 1 then 0 else if 3 = 2 then (if y1 = true then 1 else 0) else (if y2 = true then 2 else if y1 = true then 1 else 0)) := by
                  intro h
                  rw [hA.out, h]
                  rfl
                cases y2 with
                | true =>
                  have HA4 := Lib.hid (HT4.out rfl)
                  have HO4 := Lib.hid (HO3.out.set1 2)
                  have HR4 := Lib.hid (HR3.out.block (Below.heap_setCell (wr.alloc (.cells #[.string greedyS, .string benefitS] 9)) ⟨B, 1, none⟩ (.int .i64 2) w.heap.size (Nat.ne_of_lt HLT.out)))
                  have c4 := Lib.hid (below_set c3.out B (Nat.le_of_lt HLT.out) 1 (.int .i64 2))
                  go_wp2_with fail
                  go_roundw
                  case rel => exact ⟨3, 2, by decide, by decide, by go_num, HA4, HO4, HR4, c4⟩
                  case measure => simp [intOf]
                | false =>
                  have HA4 := Lib.hid (HF4.out rfl)
                  go_wp2_with fail
                  go_roundw
                  case rel => exact ⟨3, A, by decide, by decide, by go_num, HA4, HO3, HR3, c3⟩
                  case measure => simp [intOf]
              · have hAA : polA R.data.toList = A := by
                  rw [hA.out, HPA.out]
                  rfl
                have HXX : Hid (Ext s.data.toList ⟨6, A, 0, eB, eB⟩ ∧ eB.size ≤ 100000 ∧ eB.size ≤ 100000) := by
                  rw [← hAA]
                  exact HXO
                clear hAA hy1 hy2 hz1 hz2
                go_wp2_with fail
                go_meet
                exact ⟨⟨6, A, 0, eB, eB⟩, HXX, HOr, HRr, cr⟩
          · clear h1 h2
            obtain ⟨A, hA⟩ : ∃ A, pA R = A := ⟨_, rfl⟩
            obtain ⟨d, hd⟩ : ∃ d, pD R = d := ⟨_, rfl⟩
            obtain ⟨E, hE⟩ : ∃ E, pE R = E := ⟨_, rfl⟩
            obtain ⟨V, hV⟩ : ∃ V, pack (tlL 32 R2.data.toList) = V := ⟨_, rfl⟩
            obtain ⟨V0, hV0⟩ : ∃ V0, pack (hdL 32 R2.data.toList) = V0 := ⟨_, rfl⟩
            have hVs : V.size ≤ 100000 := by
              rw [← hV, pack_size]
              have h1 := tl_le 32 R2.data.toList
              have h2 := HR2s.out
              rw [str_len] at h1
              omega
            have HXO : Hid (Ext s.data.toList ⟨7, A, if d = true then 1 else 0, eB, V⟩ ∧ eB.size ≤ 100000 ∧ V.size ≤ 100000) := by
              refine ⟨ext_ofR ?_, by decide, hVs⟩
              unfold extR
              rw [HKI.out, if_pos rfl, HXR.out.2, hA, hd, ← HR2l.out, hV]
            have hc3 := rcut_any R2 (by have := HR2s.out; omega)
            rw [hV, hV0] at hc3
            have HC3 := Lib.hid hc3
            have HPA := Lib.hid (And.intro hA (And.intro hd hE))
            have hpp := refParse_any R (by have := HRs.out; omega) w5
            unfold parsePost at hpp
            rw [hA, hd, hE] at hpp
            have HPP := Lib.hid hpp
            clear hA hd hE hV hV0 hVs hc3 hpp
            go_wp2_with fail
            refine HPP.out.mono ?_
            rintro e w6 ⟨⟨s6, rfl, hn6⟩, b6⟩
            obtain ⟨p6, c6', rfl⟩ := ownsRow_slice hn6
            obtain ⟨n6, hn⟩ : ∃ n6, (pL R).length = n6 := ⟨_, rfl⟩
            rw [hn]
            have a7 := (Below.refl w6.heap.size w6).alloc (Nat.le_refl _) (.cells #[.int .i64 A, .bool d, .slice p6 n6 c6'] 38)
            have HQ := Lib.hid (PlanAt.new w6 A d (.slice p6 n6 c6') 38)
            have HO7 := Lib.hid ((HO5.out.below b6).below a7)
            have HR7 := Lib.hid ((HR5.out.below b6).below a7)
            have c7 := Lib.hid ((c5.out.trans (b6.mono c5.out.size)).trans (a7.mono (Nat.le_trans c5.out.size b6.size)))
            have HBN : Hid (B < w6.heap.size) := (HO5.out.below b6).lt
            clear hn hn6 a7 b6 HO5 HR5 c5 k0 k1 k2 k3 k4 kf0 kf1 kf2 kf3 kf4
            go_upto_region 24 with fail
            generalize (w6.alloc (.cells #[.int .i64 A, .bool d, .slice p6 n6 c6'] 38)) = w7 at *
            obtain ⟨F, hF⟩ : ∃ F, w6.heap.size = F := ⟨_, rfl⟩
            rw [hF] at HQ HBN
            rw [hF]
            clear hF
            obtain ⟨⟨q0, q1, q2⟩, qf⟩ := HQ.out
            obtain ⟨⟨k0, k1, k2, k3, k4⟩, kf⟩ := HO7.out
            have kf1 := kf 1
            clear kf qf
            have HO8 := Lib.hid (HO7.out.set1 A)
            have HR8 := Lib.hid (HR7.out.block (Below.heap_setCell w7 ⟨B, 1, none⟩ (.int .i64 A) w.heap.size (Nat.ne_of_lt HLT.out)))
            have HQ8 := Lib.hid (HQ.out.block (Below.heap_setCell w7 ⟨B, 1, none⟩ (.int .i64 A) F (Nat.ne_of_gt HBN.out)))
            have c8 := Lib.hid (below_set c7.out B (Nat.le_of_lt HLT.out) 1 (.int .i64 A))
            go_upto_region 25 with fail
            generalize w7.setCell ⟨B, 1, none⟩ (.int .i64 A) = w8 at *
            clear q0 q1 q2 k0 k1 k2 k3 k4 kf1 HO7 HR7 HQ c7
            obtain ⟨⟨q0, q1, q2⟩, qf⟩ := HQ8.out
            obtain ⟨⟨k0, k1, k2, k3, k4⟩, kf⟩ := HO8.out
            have kf2 := kf 2
            clear kf qf
            cases d with
            | false =>
              go_wp2_with fail
              refine (HC3.out _).mono ?_
              rintro e wx ⟨rfl, bx⟩
              have hox := HO8.out.below bx
              have HOY := Lib.hid (hox.set4 V)
              have HRY := Lib.hid ((HR8.out.below bx).block (Below.heap_setCell wx ⟨B, 4, none⟩ (.string V) w.heap.size (Nat.ne_of_lt HLT.out)))
              have cY := Lib.hid (below_set (c8.out.trans (bx.mono c8.out.size)) B (Nat.le_of_lt HLT.out) 4 (.string V))
              obtain ⟨⟨x0, x1, x2, x3, x4⟩, xf⟩ := hox
              have xf4 := xf 4
              clear xf bx
              go_wp2_with fail
              go_meet
              exact ⟨⟨7, A, 0, eB, V⟩, HXO, HOY, HRY, cY⟩
            | true =>
              have HO9 := Lib.hid (HO8.out.set2 1)
              have HR9 := Lib.hid (HR8.out.block (Below.heap_setCell w8 ⟨B, 2, none⟩ (.int .i64 1) w.heap.size (Nat.ne_of_lt HLT.out)))
              have c9 := Lib.hid (below_set c8.out B (Nat.le_of_lt HLT.out) 2 (.int .i64 1))
              go_upto_region 27 with fail
              generalize w8.setCell ⟨B, 2, none⟩ (.int .i64 1) = w9 at *
              go_wp2_with fail
              refine (HC3.out _).mono ?_
              rintro e wx ⟨rfl, bx⟩
              have hox := HO9.out.below bx
              have HOY := Lib.hid (hox.set4 V)
              have HRY := Lib.hid ((HR9.out.below bx).block (Below.heap_setCell wx ⟨B, 4, none⟩ (.string V) w.heap.size (Nat.ne_of_lt HLT.out)))
              have cY := Lib.hid (below_set (c9.out.trans (bx.mono c9.out.size)) B (Nat.le_of_lt HLT.out) 4 (.string V))
              obtain ⟨⟨x0, x1, x2, x3, x4⟩, xf⟩ := hox
              have xf4 := xf 4
              clear xf bx
              go_wp2_with fail
              go_meet
              exact ⟨⟨7, A, 1, eB, V⟩, HXO, HOY, HRY, cY⟩
          · clear h1 h2
            have HXO : Hid (Ext s.data.toList ⟨8, 0, 0, eB, eB⟩ ∧ eB.size ≤ 100000 ∧ eB.size ≤ 100000) := by
              refine ⟨ext_ofR ?_, by decide, by decide⟩
              unfold extR extP
              rw [HKI.out]
              rfl
            go_wp2_with fail
            go_meet
            exact ⟨⟨8, 0, 0, eB, eB⟩, HXO, HO5, HR5, c5⟩
      case rest =>
        obtain ⟨o, HX, HO9, HR9, c9⟩ := hcut
        clear k0 HO5 HR5 c5
        obtain ⟨k, a, b, x, v⟩ := o
        obtain ⟨⟨k0, k1, k2, k3, k4⟩, kf⟩ := HO9.out
        clear kf
        go_wp2_with fail
        refine (rprint39_any k a b x v HX.out.2.1 HX.out.2.2 _).mono ?_
        obtain ⟨T, hT⟩ : ∃ T, prT ⟨k, a, b, x, v⟩ = T := ⟨_, rfl⟩
        obtain ⟨E, hE⟩ : ∃ E, prE ⟨k, a, b, x, v⟩ = E := ⟨_, rfl⟩
        rw [hT, hE]
        rintro e w9 ⟨rfl, b9⟩
        have HO10 := Lib.hid (HO9.out.below b9)
        have HR10 := Lib.hid (HR9.out.below b9)
        have c10 := Lib.hid (c9.out.trans (b9.mono c9.out.size))
        obtain ⟨y, hy⟩ : ∃ y, (T.toList == s.toList) = y := ⟨_, rfl⟩
        have HPT := Lib.hid (And.intro hT (And.intro hE hy))
        clear HO9 HR9 c9 b9 hT hE k0 k1 k2 k3 k4
        obtain ⟨⟨k0, k1, k2, k3, k4⟩, kf⟩ := HO10.out
        obtain ⟨⟨r0, r1, r2, r3, r4⟩, rf⟩ := HR10.out
        have rf0 := rf 0
        have rf1 := rf 1
        have rf2 := rf 2
        have rf3 := rf 3
        have rf4 := rf 4
        clear kf rf
        by_cases hg : opGood ⟨k, a, b, x, v⟩
        · obtain ⟨g1, g2⟩ := pr_good hg
          obtain rfl : E = 0 := HPT.out.2.1.symm.trans g2
          cases y with
          | true =>
            have HF : Hid (opP s.data.toList = ⟨k, a, b, x, v⟩ ∧ opPE s.data.toList = 0) := by
              refine opP_hit hg ?_ HX.out.1
              have h := HPT.out.2.2
              rw [beq_iff_eq, ByteArray.toList_eq, ByteArray.toList_eq, ← HPT.out.1, g1, pack_data] at h
              exact h
            have HRs := Lib.hid (set5_at HR10.out k a b x v)
            have gc := Lib.hid (set5_below c10.out (Nat.le_refl _) (.int .i64 k) (.int .i64 a) (.int .i64 b) (.string x) (.string v))
            go_wp2_with fail
            exact bodyPost_ret (results_u rfl _ _ w.heap.size k a b x v _ HRs.out rfl rfl) rfl ⟨by rw [HF.out.1, HF.out.2]; rfl, gc.out⟩
          | false =>
            have HF : Hid (opP s.data.toList = zeroOp ∧ opPE s.data.toList = 8) := by
              refine opP_miss HX.out.1 fun ⟨_, h2⟩ => ?_
              have h := HPT.out.2.2
              rw [str_same (by rw [← HPT.out.1, g1, pack_data, h2])] at h
              cases h
            have HRs := Lib.hid (set5_at HR10.out 0 0 0 ⟨#[]⟩ ⟨#[]⟩)
            have gc := Lib.hid (set5_below c10.out (Nat.le_refl _) (.int .i64 0) (.int .i64 0) (.int .i64 0) (.string ⟨#[]⟩) (.string ⟨#[]⟩))
            go_wp2_with fail
            exact bodyPost_ret (results_u rfl _ _ w.heap.size 0 0 0 ⟨#[]⟩ ⟨#[]⟩ _ HRs.out rfl rfl) rfl ⟨by rw [HF.out.1, HF.out.2]; rfl, gc.out⟩
        · obtain ⟨g1, g2⟩ := pr_bad hg
          obtain rfl : E = 2 := HPT.out.2.1.symm.trans g2
          have HF : Hid (opP s.data.toList = zeroOp ∧ opPE s.data.toList = 8) := opP_miss HX.out.1 fun ⟨h1, _⟩ => hg h1
          have HRs := Lib.hid (set5_at HR10.out 0 0 0 ⟨#[]⟩ ⟨#[]⟩)
          have gc := Lib.hid (set5_below c10.out (Nat.le_refl _) (.int .i64 0) (.int .i64 0) (.int .i64 0) (.string ⟨#[]⟩) (.string ⟨#[]⟩))
          clear hg hy
          go_wp2_with fail
          exact bodyPost_ret (results_u rfl _ _ w.heap.size 0 0 0 ⟨#[]⟩ ⟨#[]⟩ _ HRs.out rfl rfl) rfl ⟨by rw [HF.out.1, HF.out.2]; rfl, gc.out⟩
end Go.Proofs.YtlmbcclggaflaaaGreatDoor
namespace Go.Proofs.YtlmbcclggaflaaaGreatDoor
open Go Go.RowKit

/-- The string of the plan of an operation. -/
def planT (o : OpD) : ByteArray := pack (crashL o.a o.b o.val.data.toList)
theorem planT_good {o : OpD} (hk : o.kind = 7) (h : opGood o) : goodP (planT o) ∧ pA (planT o) = o.a ∧ pD (planT o) = decide (o.b = 1) ∧ pE (planT o) = 0 ∧ o.val.data.toList = keepT (pL (planT o)) ∧ planOK o.a (pL (planT o)) = true := by
  rcases h with ⟨h2, _⟩ | ⟨h2, _⟩ | ⟨h2, _⟩ | ⟨h2, _⟩ | ⟨_, h2, _, L, h3, h4⟩
  · omega
  · omega
  · omega
  · omega
  · obtain ⟨g0, g1, g2, g3⟩ := crash_good (s := planT o) h2 h4 h3 (pack_data _)
    obtain ⟨e1, e2, e3, e4⟩ := p_good g0
    rw [e1, e2, e3, e4, g1, g2, g3]
    exact ⟨g0, rfl, rfl, rfl, h4, h3⟩
theorem planT_text {o : OpD} (hk : o.kind = 7) (h : opGood o) : prT o = ⟨#[99, 114, 97, 115, 104, 32]⟩ ++ planT o := by
  rw [(pr_good h).1, good7_text hk h, crashI_pos (good7_range hk h).1]
  unfold planT
  apply ByteArray.ext
  apply Array.ext'
  simp [pack, wordL]
theorem planT_size {o : OpD} (hk : o.kind = 7) (h : opGood o) (hv : o.val.size ≤ 100000) : (planT o).size ≤ 200000 := by
  unfold planT crashL
  have := dS_len o.a (good7_range hk h).2.1
  rw [pack_size]
  simp
  omega
theorem trim_pre (T : ByteArray) : (⟨(Lib.trimPrefix ((⟨#[99, 114, 97, 115, 104, 32]⟩ ++ T : ByteArray).data.toList) (⟨#[99, 114, 97, 115, 104, 32]⟩ : ByteArray).data.toList).toArray⟩ : ByteArray) = T := by
  apply ByteArray.ext
  apply Array.ext'
  simp [Lib.trimPrefix, Lib.hasPrefix]
set_option maxRecDepth 100000 in
set_option maxHeartbeats 2000000 in
theorem oplan_bad (k a b : Int) (x v : ByteArray) (hf : opFit ⟨k, a, b, x, v⟩) (h : ¬ (opGood ⟨k, a, b, x, v⟩ ∧ k = 7)) (m : Int) (w : World) (he : Env m w) :
    Calls Tryz.prog 17 #[opA k a b x v] w fun e w' => e = .returned (.tuple #[planV 0 false (.slice none 0 0), .int .i64 2]) ∧ Below w.heap.size w w' := by
  obtain ⟨T, hT⟩ : ∃ T, prT ⟨k, a, b, x, v⟩ = T := ⟨_, rfl⟩
  obtain ⟨E, hE⟩ : ∃ E, prE ⟨k, a, b, x, v⟩ = E := ⟨_, rfl⟩
  have HTE := Lib.hid (And.intro hT hE)
  have HH := Lib.hid (And.intro hf (And.intro h he))
  clear hT hE hf h he
  go_enter Tryz.func17, Tryz.ntmps17
  go_wp2_with fail
  have H1 := Lib.hid ((OpBox.new w k a b x v 28).below ((Below.refl _ (w.alloc (.cells #[.int .i64 k, .int .i64 a, .int .i64 b, .string x, .string v] 28))).alloc (Nat.le_refl _) (.cells #[.int .i64 0, .bool false, .slice none 0 0] 38)))
  have HP := Lib.hid (plan_new2 w (.cells #[.int .i64 k, .int .i64 a, .int .i64 b, .string x, .string v] 28) 0 false (.slice none 0 0) 38)
  have HC := Lib.hid (below2 w (.cells #[.int .i64 k, .int .i64 a, .int .i64 b, .string x, .string v] 28) (.cells #[.int .i64 0, .bool false, .slice none 0 0] 38))
  generalize (w.alloc (.cells #[.int .i64 k, .int .i64 a, .int .i64 b, .string x, .string v] 28)).alloc (.cells #[.int .i64 0, .bool false, .slice none 0 0] 38) = w1 at *
  refine (print_any k a b x v HH.out.1 m _ (HH.out.2.2.below HC.out)).mono ?_
  rw [HTE.out.1, HTE.out.2]
  rintro e w2 ⟨rfl, b1⟩
  have H2 := Lib.hid (H1.out.below b1)
  have HP2 := Lib.hid (HP.out.below b1)
  have HC2 := Lib.hid (HC.out.trans (b1.mono HC.out.size))
  clear H1 HP HC b1
  obtain ⟨⟨k0, k1, k2, k3, k4⟩, kf⟩ := H2.out
  obtain ⟨⟨u0, u1, u2⟩, uf⟩ := HP2.out
  have uf0 := uf 0
  have uf1 := uf 1
  have uf2 := uf 2
  clear uf kf
  by_cases hg : opGood ⟨k, a, b, x, v⟩
  · obtain rfl : E = 0 := HTE.out.2.symm.trans (pr_good hg).2
    have hk : ¬ k = 7 := fun e => HH.out.2.1 ⟨hg, e⟩
    have d1 : (k != 7) = true := by rw [bne_iff_ne]; exact hk
    have d2 : (k == 7) = false := beq_false_of_ne hk
    clear hg hk
    have HPs := Lib.hid (HP2.out.set 0 false (.slice none 0 0))
    have HCs := Lib.hid (below_set (below_set (below_set HC2.out (w.heap.size + 1) (Nat.le_succ _) 0 (.int .i64 0)) (w.heap.size + 1) (Nat.le_succ _) 1 (.bool false)) (w.heap.size + 1) (Nat.le_succ _) 2 (.slice none 0 0))
    go_wp2_with fail
    exact bodyPost_ret (results_plan_slot rfl _ _ (w.heap.size + 1) 0 false (.slice none 0 0) _ HPs.out rfl rfl) rfl ⟨rfl, HCs.out⟩
  · obtain rfl : E = 2 := HTE.out.2.symm.trans (pr_bad hg).2
    clear hg
    have HPs := Lib.hid (HP2.out.set 0 false (.slice none 0 0))
    have HCs := Lib.hid (below_set (below_set (below_set HC2.out (w.heap.size + 1) (Nat.le_succ _) 0 (.int .i64 0)) (w.heap.size + 1) (Nat.le_succ _) 1 (.bool false)) (w.heap.size + 1) (Nat.le_succ _) 2 (.slice none 0 0))
    go_wp2_with fail
    exact bodyPost_ret (results_plan_slot rfl _ _ (w.heap.size + 1) 0 false (.slice none 0 0) _ HPs.out rfl rfl) rfl ⟨rfl, HCs.out⟩
set_option maxRecDepth 100000 in
set_option maxHeartbeats 2000000 in
theorem rplan39_bad (k a b : Int) (x v : ByteArray) (hx : x.size ≤ 100000) (hv : v.size ≤ 100000) (h : ¬ (opGood ⟨k, a, b, x, v⟩ ∧ k = 7)) (w : World) :
    Calls Tryz.prog 33 #[opA k a b x v] w fun e w' => e = .returned (.tuple #[planV 0 false (.slice none 0 0), .int .i64 2]) ∧ Below w.heap.size w w' := by
  obtain ⟨E, hE⟩ : ∃ E, prE ⟨k, a, b, x, v⟩ = E := ⟨_, rfl⟩
  have HTE := Lib.hid hE
  have HH := Lib.hid (And.intro hx (And.intro hv h))
  clear hE hx hv h
  go_enter Tryz.func33, Tryz.ntmps33
  go_wp2_with fail
  have H1 := Lib.hid ((OpBox.new w k a b x v 28).below ((Below.refl _ (w.alloc (.cells #[.int .i64 k, .int .i64 a, .int .i64 b, .string x, .string v] 28))).alloc (Nat.le_refl _) (.cells #[.int .i64 0, .bool false, .slice none 0 0] 38)))
  have HP := Lib.hid (plan_new2 w (.cells #[.int .i64 k, .int .i64 a, .int .i64 b, .string x, .string v] 28) 0 false (.slice none 0 0) 38)
  have HC := Lib.hid (below2 w (.cells #[.int .i64 k, .int .i64 a, .int .i64 b, .string x, .string v] 28) (.cells #[.int .i64 0, .bool false, .slice none 0 0] 38))
  generalize (w.alloc (.cells #[.int .i64 k, .int .i64 a, .int .i64 b, .string x, .string v] 28)).alloc (.cells #[.int .i64 0, .bool false, .slice none 0 0] 38) = w1 at *
  obtain ⟨⟨k0, k1, k2, k3, k4⟩, kf⟩ := H1.out
  clear kf
  refine (rcheck39_any k a b x v HH.out.1 HH.out.2.1 _).mono ?_
  rw [HTE.out]
  rintro e w2 ⟨rfl, b1⟩
  clear k0 k1 k2 k3 k4
  have H2 := Lib.hid (H1.out.below b1)
  have HP2 := Lib.hid (HP.out.below b1)
  have HC2 := Lib.hid (HC.out.trans (b1.mono HC.out.size))
  clear H1 HP HC b1
  obtain ⟨⟨k0, k1, k2, k3, k4⟩, kf⟩ := H2.out
  obtain ⟨⟨u0, u1, u2⟩, uf⟩ := HP2.out
  have uf0 := uf 0
  have uf1 := uf 1
  have uf2 := uf 2
  clear uf kf
  by_cases hg : opGood ⟨k, a, b, x, v⟩
  · obtain rfl : E = 0 := HTE.out.symm.trans (pr_good hg).2
    have hk : ¬ k = 7 := fun e => HH.out.2.2 ⟨hg, e⟩
    have d1 : (k != 7) = true := by rw [bne_iff_ne]; exact hk
    have d2 : (k == 7) = false := beq_false_of_ne hk
    clear hg hk
    have HPs := Lib.hid (HP2.out.set 0 false (.slice none 0 0))
    have HCs := Lib.hid (below_set (below_set (below_set HC2.out (w.heap.size + 1) (Nat.le_succ _) 0 (.int .i64 0)) (w.heap.size + 1) (Nat.le_succ _) 1 (.bool false)) (w.heap.size + 1) (Nat.le_succ _) 2 (.slice none 0 0))
    go_wp2_with fail
    exact bodyPost_ret (results_plan_slot rfl _ _ (w.heap.size + 1) 0 false (.slice none 0 0) _ HPs.out rfl rfl) rfl ⟨rfl, HCs.out⟩
  · obtain rfl : E = 2 := HTE.out.symm.trans (pr_bad hg).2
    clear hg
    have HPs := Lib.hid (HP2.out.set 0 false (.slice none 0 0))
    have HCs := Lib.hid (below_set (below_set (below_set HC2.out (w.heap.size + 1) (Nat.le_succ _) 0 (.int .i64 0)) (w.heap.size + 1) (Nat.le_succ _) 1 (.bool false)) (w.heap.size + 1) (Nat.le_succ _) 2 (.slice none 0 0))
    go_wp2_with fail
    exact bodyPost_ret (results_plan_slot rfl _ _ (w.heap.size + 1) 0 false (.slice none 0 0) _ HPs.out rfl rfl) rfl ⟨rfl, HCs.out⟩
set_option maxRecDepth 100000 in
set_option maxHeartbeats 2000000 in
theorem oplan_good (a b : Int) (x v : ByteArray) (hf : opFit ⟨7, a, b, x, v⟩) (h : opGood ⟨7, a, b, x, v⟩) (m : Int) (w : World) (he : Env m w) :
    Calls Tryz.prog 17 #[opA 7 a b x v] w fun e w' => (∃ s, e = .returned (.tuple #[planV (pA (planT ⟨7, a, b, x, v⟩)) (pD (planT ⟨7, a, b, x, v⟩)) s, .int .i64 0]) ∧ IntsNew w.heap.size w' s (pL (planT ⟨7, a, b, x, v⟩))) ∧ Below w.heap.size w w' := by
  have k := (7 : Int)
  obtain ⟨g0, _, _, g3, _, _⟩ := planT_good (o := ⟨7, a, b, x, v⟩) rfl h
  have hTs := planT_size (o := ⟨7, a, b, x, v⟩) rfl h hf.2.2
  have hPT := planT_text (o := ⟨7, a, b, x, v⟩) rfl h
  obtain ⟨T, hT⟩ : ∃ T, planT ⟨7, a, b, x, v⟩ = T := ⟨_, rfl⟩
  rw [hT] at g0 g3 hTs hPT ⊢
  have htr := trim_pre T
  obtain ⟨P, hP⟩ : ∃ P, (⟨#[99, 114, 97, 115, 104, 32]⟩ : ByteArray) ++ T = P := ⟨_, rfl⟩
  rw [hP] at hPT htr
  have HE0 := Lib.hid (pr_good h).2
  have HTR := Lib.hid htr
  have HPT := Lib.hid hPT
  have HTs := Lib.hid hTs
  have HH := Lib.hid (And.intro hf he)
  have hpp : ∀ w, Env m w → _ := fun w he => parse_any T (by have := HTs.out; omega) m w he.1 he.2.1 he.2.2
  unfold parsePost at hpp
  obtain ⟨A, hA⟩ : ∃ A, pA T = A := ⟨_, rfl⟩
  obtain ⟨d, hd⟩ : ∃ d, pD T = d := ⟨_, rfl⟩
  obtain ⟨L, hL⟩ : ∃ L, pL T = L := ⟨_, rfl⟩
  rw [hA, hd, g3, hL] at hpp
  have HPP := Lib.hid hpp
  have HEQ := Lib.hid (And.intro hA (And.intro hd hL))
  clear g0 g3 hTs hPT htr hP hpp hT hf he h hA hd hL k
  go_enter Tryz.func17, Tryz.ntmps17
  go_wp2_with fail
  have H1 := Lib.hid ((OpBox.new w 7 a b x v 28).below ((Below.refl _ (w.alloc (.cells #[.int .i64 7, .int .i64 a, .int .i64 b, .string x, .string v] 28))).alloc (Nat.le_refl _) (.cells #[.int .i64 0, .bool false, .slice none 0 0] 38)))
  have HP := Lib.hid (plan_new2 w (.cells #[.int .i64 7, .int .i64 a, .int .i64 b, .string x, .string v] 28) 0 false (.slice none 0 0) 38)
  have HC := Lib.hid (below2 w (.cells #[.int .i64 7, .int .i64 a, .int .i64 b, .string x, .string v] 28) (.cells #[.int .i64 0, .bool false, .slice none 0 0] 38))
  generalize (w.alloc (.cells #[.int .i64 7, .int .i64 a, .int .i64 b, .string x, .string v] 28)).alloc (.cells #[.int .i64 0, .bool false, .slice none 0 0] 38) = w1 at *
  refine (print_any 7 a b x v HH.out.1 m _ (HH.out.2.below HC.out)).mono ?_
  rw [HPT.out, HE0.out]
  rintro e w2 ⟨rfl, b1⟩
  have H2 := Lib.hid (H1.out.below b1)
  have HP2 := Lib.hid (HP.out.below b1)
  have HC2 := Lib.hid (HC.out.trans (b1.mono HC.out.size))
  clear H1 HP HC b1
  obtain ⟨⟨k0, k1, k2, k3, k4⟩, kf⟩ := H2.out
  obtain ⟨⟨u0, u1, u2⟩, uf⟩ := HP2.out
  have uf0 := uf 0
  have uf1 := uf 1
  have uf2 := uf 2
  clear uf kf
  go_wp2_with fail
  refine (word_any 7 _).mono ?_
  rw [show pack (wordL 7) = ⟨#[99, 114, 97, 115, 104]⟩ from rfl]
  rintro e w3 ⟨rfl, b3⟩
  have HP3 := Lib.hid (HP2.out.below b3)
  have HC3 := Lib.hid (HC2.out.trans (b3.mono HC2.out.size))
  have htp := keeps (Tryz.strings_TrimPrefix P ⟨#[99, 114, 97, 115, 104, 32]⟩ w3)
  rw [HTR.out] at htp
  clear b3 HP2 HC2 H2 k0 k1 k2 k3 k4 u0 u1 u2 uf0 uf1 uf2
  go_wp2_with fail
  refine htp.mono ?_
  rintro e w3' ⟨rfl, rfl⟩
  clear htp
  go_wp2_with fail
  refine (HPP.out _ (HH.out.2.below HC3.out)).mono ?_
  rintro e w4 ⟨⟨s4, rfl, hn4⟩, b4⟩
  obtain ⟨q4, n4, rfl⟩ := ownsRow_slice hn4
  have HLB := Lib.hid HP3.out.lt
  have HP4 := Lib.hid (HP3.out.below b4)
  have hN4 := Lib.hid hn4
  have HC4 := Lib.hid (HC3.out.trans (b4.mono HC3.out.size))
  obtain ⟨⟨u0, u1, u2⟩, uf⟩ := HP4.out
  have uf0 := uf 0
  have uf1 := uf 1
  have uf2 := uf 2
  clear uf hn4 b4 HP3 HC3
  have HPs := Lib.hid (HP4.out.set A d (.slice q4 L.length n4))
  have hNs := Lib.hid ((((hN4.out.set ⟨w.heap.size + 1, 0, none⟩ (.int .i64 A) HLB.out).set ⟨w.heap.size + 1, 1, none⟩ (.bool d) HLB.out).set ⟨w.heap.size + 1, 2, none⟩ (.slice q4 L.length n4) HLB.out).base (Nat.le_trans (Nat.le_succ _) (Nat.le_of_lt HLB.out)))
  have HCs := Lib.hid (below_set (below_set (below_set HC4.out (w.heap.size + 1) (Nat.le_succ _) 0 (.int .i64 A)) (w.heap.size + 1) (Nat.le_succ _) 1 (.bool d)) (w.heap.size + 1) (Nat.le_succ _) 2 (.slice q4 L.length n4))
  go_wp2_with fail
  exact bodyPost_ret (results_plan_slot rfl _ _ (w.heap.size + 1) A d (.slice q4 L.length n4) _ HPs.out rfl rfl) rfl ⟨⟨.slice q4 L.length n4, by rw [HEQ.out.1, HEQ.out.2.1]; rfl, by rw [HEQ.out.2.2]; exact hNs.out⟩, HCs.out⟩
set_option maxRecDepth 100000 in
set_option maxHeartbeats 2000000 in
theorem rplan39_no (a : Int) (x v : ByteArray) (hx : x.size ≤ 100000) (hv : v.size ≤ 100000) (h : opGood ⟨7, a, 0, x, v⟩) (w : World) :
    Calls Tryz.prog 33 #[opA 7 a 0 x v] w fun e w' => (∃ s, e = .returned (.tuple #[planV (pA (planT ⟨7, a, 0, x, v⟩)) (pD (planT ⟨7, a, 0, x, v⟩)) s, .int .i64 0]) ∧ IntsNew w.heap.size w' s (pL (planT ⟨7, a, 0, x, v⟩))) ∧ Below w.heap.size w w' := by
  obtain ⟨h0, h1, _⟩ := good7_range (o := ⟨7, a, 0, x, v⟩) rfl h
  have h0' : 0 ≤ a := h0
  have h1' : a ≤ 1000000 := h1
  obtain ⟨g0, _, _, g3, _, _⟩ := planT_good (o := ⟨7, a, 0, x, v⟩) rfl h
  have hTl : (planT ⟨7, a, 0, x, v⟩).data.toList = crashL a 0 v.data.toList := pack_data _
  obtain ⟨T, hT⟩ : ∃ T, planT ⟨7, a, 0, x, v⟩ = T := ⟨_, rfl⟩
  rw [hT] at g0 g3 hTl ⊢
  have HE0 := Lib.hid (pr_good h).2
  have hpp := rplan_no 7 a x v h0' h1' hv T hTl
  obtain ⟨A, hA⟩ : ∃ A, pA T = A := ⟨_, rfl⟩
  obtain ⟨d, hd⟩ : ∃ d, pD T = d := ⟨_, rfl⟩
  obtain ⟨L, hL⟩ : ∃ L, pL T = L := ⟨_, rfl⟩
  rw [hA, hd, g3, hL] at hpp
  have HPP := Lib.hid hpp
  have HEQ := Lib.hid (And.intro hA (And.intro hd hL))
  have HH := Lib.hid (And.intro hx hv)
  clear g0 g3 hpp hT hx hv h hA hd hL hTl h0 h1 h0' h1'
  go_enter Tryz.func33, Tryz.ntmps33
  go_wp2_with fail
  have H1 := Lib.hid ((OpBox.new w 7 a 0 x v 28).below ((Below.refl _ (w.alloc (.cells #[.int .i64 7, .int .i64 a, .int .i64 0, .string x, .string v] 28))).alloc (Nat.le_refl _) (.cells #[.int .i64 0, .bool false, .slice none 0 0] 38)))
  have HP := Lib.hid (plan_new2 w (.cells #[.int .i64 7, .int .i64 a, .int .i64 0, .string x, .string v] 28) 0 false (.slice none 0 0) 38)
  have HC := Lib.hid (below2 w (.cells #[.int .i64 7, .int .i64 a, .int .i64 0, .string x, .string v] 28) (.cells #[.int .i64 0, .bool false, .slice none 0 0] 38))
  generalize (w.alloc (.cells #[.int .i64 7, .int .i64 a, .int .i64 0, .string x, .string v] 28)).alloc (.cells #[.int .i64 0, .bool false, .slice none 0 0] 38) = w1 at *
  obtain ⟨⟨k0, k1, k2, k3, k4⟩, kf⟩ := H1.out
  clear kf
  refine (rcheck39_any 7 a 0 x v HH.out.1 HH.out.2 _).mono ?_
  rw [HE0.out]
  rintro e w2 ⟨rfl, b1⟩
  clear k0 k1 k2 k3 k4
  have H2 := Lib.hid (H1.out.below b1)
  have HP2 := Lib.hid (HP.out.below b1)
  have HC2 := Lib.hid (HC.out.trans (b1.mono HC.out.size))
  clear H1 HP HC b1
  obtain ⟨⟨k0, k1, k2, k3, k4⟩, kf⟩ := H2.out
  clear kf
  go_wp2_with fail
  refine (HPP.out _).mono ?_
  rintro e w3 ⟨⟨s4, rfl, hn4⟩, b4⟩
  obtain ⟨q4, n4, rfl⟩ := ownsRow_slice hn4
  have HLB := Lib.hid HP2.out.lt
  have a5 := (Below.refl w3.heap.size w3).alloc (Nat.le_refl _) (.cells #[.int .i64 A, .bool d, .slice q4 L.length n4] 38)
  have HQ := Lib.hid (PlanAt.new w3 A d (.slice q4 L.length n4) 38)
  have HP4 := Lib.hid ((HP2.out.below b4).below a5)
  have hN4 := Lib.hid (IntsNew.below hn4 a5)
  have HC4 := Lib.hid ((HC2.out.trans (b4.mono HC2.out.size)).trans (a5.mono (Nat.le_trans HC2.out.size b4.size)))
  clear hn4 b4 a5 HP2 HC2 H2 k0 k1 k2 k3 k4
  go_upto_region 4 with fail
  generalize (w3.alloc (.cells #[.int .i64 A, .bool d, .slice q4 L.length n4] 38)) = w4 at *
  obtain ⟨F, hF⟩ : ∃ F, w3.heap.size = F := ⟨_, rfl⟩
  rw [hF] at HQ
  rw [hF]
  clear hF
  obtain ⟨⟨q0, q1, q2⟩, qf⟩ := HQ.out
  obtain ⟨⟨u0, u1, u2⟩, uf⟩ := HP4.out
  have uf0 := uf 0
  have uf1 := uf 1
  have uf2 := uf 2
  clear uf qf
  have HPs := Lib.hid (HP4.out.set A d (.slice q4 L.length n4))
  have hNs := Lib.hid ((((hN4.out.set ⟨w.heap.size + 1, 0, none⟩ (.int .i64 A) HLB.out).set ⟨w.heap.size + 1, 1, none⟩ (.bool d) HLB.out).set ⟨w.heap.size + 1, 2, none⟩ (.slice q4 L.length n4) HLB.out).base (Nat.le_trans (Nat.le_succ _) (Nat.le_of_lt HLB.out)))
  have HCs := Lib.hid (below_set (below_set (below_set HC4.out (w.heap.size + 1) (Nat.le_succ _) 0 (.int .i64 A)) (w.heap.size + 1) (Nat.le_succ _) 1 (.bool d)) (w.heap.size + 1) (Nat.le_succ _) 2 (.slice q4 L.length n4))
  go_wp2_with fail
  exact bodyPost_ret (results_plan_slot rfl _ _ (w.heap.size + 1) A d (.slice q4 L.length n4) _ HPs.out rfl rfl) rfl ⟨⟨.slice q4 L.length n4, by rw [HEQ.out.1, HEQ.out.2.1]; rfl, by rw [HEQ.out.2.2]; exact hNs.out⟩, HCs.out⟩
set_option maxRecDepth 100000 in
set_option maxHeartbeats 2000000 in
theorem rplan39_yes (a : Int) (x v : ByteArray) (hx : x.size ≤ 100000) (hv : v.size ≤ 100000) (h : opGood ⟨7, a, 1, x, v⟩) (w : World) :
    Calls Tryz.prog 33 #[opA 7 a 1 x v] w fun e w' => (∃ s, e = .returned (.tuple #[planV (pA (planT ⟨7, a, 1, x, v⟩)) (pD (planT ⟨7, a, 1, x, v⟩)) s, .int .i64 0]) ∧ IntsNew w.heap.size w' s (pL (planT ⟨7, a, 1, x, v⟩))) ∧ Below w.heap.size w w' := by
  obtain ⟨h0, h1, _⟩ := good7_range (o := ⟨7, a, 1, x, v⟩) rfl h
  have h0' : 0 ≤ a := h0
  have h1' : a ≤ 1000000 := h1
  obtain ⟨g0, _, _, g3, _, _⟩ := planT_good (o := ⟨7, a, 1, x, v⟩) rfl h
  have hTl : (planT ⟨7, a, 1, x, v⟩).data.toList = crashL a 1 v.data.toList := pack_data _
  obtain ⟨T, hT⟩ : ∃ T, planT ⟨7, a, 1, x, v⟩ = T := ⟨_, rfl⟩
  rw [hT] at g0 g3 hTl ⊢
  have HE0 := Lib.hid (pr_good h).2
  have hpp := rplan_yes 7 a x v h0' h1' hv T hTl
  obtain ⟨A, hA⟩ : ∃ A, pA T = A := ⟨_, rfl⟩
  obtain ⟨d, hd⟩ : ∃ d, pD T = d := ⟨_, rfl⟩
  obtain ⟨L, hL⟩ : ∃ L, pL T = L := ⟨_, rfl⟩
  rw [hA, hd, g3, hL] at hpp
  have HPP := Lib.hid hpp
  have HEQ := Lib.hid (And.intro hA (And.intro hd hL))
  have HH := Lib.hid (And.intro hx hv)
  clear g0 g3 hpp hT hx hv h hA hd hL hTl h0 h1 h0' h1'
  go_enter Tryz.func33, Tryz.ntmps33
  go_wp2_with fail
  have H1 := Lib.hid ((OpBox.new w 7 a 1 x v 28).below ((Below.refl _ (w.alloc (.cells #[.int .i64 7, .int .i64 a, .int .i64 1, .string x, .string v] 28))).alloc (Nat.le_refl _) (.cells #[.int .i64 0, .bool false, .slice none 0 0] 38)))
  have HP := Lib.hid (plan_new2 w (.cells #[.int .i64 7, .int .i64 a, .int .i64 1, .string x, .string v] 28) 0 false (.slice none 0 0) 38)
  have HC := Lib.hid (below2 w (.cells #[.int .i64 7, .int .i64 a, .int .i64 1, .string x, .string v] 28) (.cells #[.int .i64 0, .bool false, .slice none 0 0] 38))
  generalize (w.alloc (.cells #[.int .i64 7, .int .i64 a, .int .i64 1, .string x, .string v] 28)).alloc (.cells #[.int .i64 0, .bool false, .slice none 0 0] 38) = w1 at *
  obtain ⟨⟨k0, k1, k2, k3, k4⟩, kf⟩ := H1.out
  clear kf
  refine (rcheck39_any 7 a 1 x v HH.out.1 HH.out.2 _).mono ?_
  rw [HE0.out]
  rintro e w2 ⟨rfl, b1⟩
  clear k0 k1 k2 k3 k4
  have H2 := Lib.hid (H1.out.below b1)
  have HP2 := Lib.hid (HP.out.below b1)
  have HC2 := Lib.hid (HC.out.trans (b1.mono HC.out.size))
  clear H1 HP HC b1
  obtain ⟨⟨k0, k1, k2, k3, k4⟩, kf⟩ := H2.out
  clear kf
  go_wp2_with fail
  refine (HPP.out _).mono ?_
  rintro e w3 ⟨⟨s4, rfl, hn4⟩, b4⟩
  obtain ⟨q4, n4, rfl⟩ := ownsRow_slice hn4
  have HLB := Lib.hid HP2.out.lt
  have a5 := (Below.refl w3.heap.size w3).alloc (Nat.le_refl _) (.cells #[.int .i64 A, .bool d, .slice q4 L.length n4] 38)
  have HQ := Lib.hid (PlanAt.new w3 A d (.slice q4 L.length n4) 38)
  have HP4 := Lib.hid ((HP2.out.below b4).below a5)
  have hN4 := Lib.hid (IntsNew.below hn4 a5)
  have HC4 := Lib.hid ((HC2.out.trans (b4.mono HC2.out.size)).trans (a5.mono (Nat.le_trans HC2.out.size b4.size)))
  clear hn4 b4 a5 HP2 HC2 H2 k0 k1 k2 k3 k4
  go_upto_region 4 with fail
  generalize (w3.alloc (.cells #[.int .i64 A, .bool d, .slice q4 L.length n4] 38)) = w4 at *
  obtain ⟨F, hF⟩ : ∃ F, w3.heap.size = F := ⟨_, rfl⟩
  rw [hF] at HQ
  rw [hF]
  clear hF
  obtain ⟨⟨q0, q1, q2⟩, qf⟩ := HQ.out
  obtain ⟨⟨u0, u1, u2⟩, uf⟩ := HP4.out
  have uf0 := uf 0
  have uf1 := uf 1
  have uf2 := uf 2
  clear uf qf
  have HPs := Lib.hid (HP4.out.set A d (.slice q4 L.length n4))
  have hNs := Lib.hid ((((hN4.out.set ⟨w.heap.size + 1, 0, none⟩ (.int .i64 A) HLB.out).set ⟨w.heap.size + 1, 1, none⟩ (.bool d) HLB.out).set ⟨w.heap.size + 1, 2, none⟩ (.slice q4 L.length n4) HLB.out).base (Nat.le_trans (Nat.le_succ _) (Nat.le_of_lt HLB.out)))
  have HCs := Lib.hid (below_set (below_set (below_set HC4.out (w.heap.size + 1) (Nat.le_succ _) 0 (.int .i64 A)) (w.heap.size + 1) (Nat.le_succ _) 1 (.bool d)) (w.heap.size + 1) (Nat.le_succ _) 2 (.slice q4 L.length n4))
  go_wp2_with fail
  exact bodyPost_ret (results_plan_slot rfl _ _ (w.heap.size + 1) A d (.slice q4 L.length n4) _ HPs.out rfl rfl) rfl ⟨⟨.slice q4 L.length n4, by rw [HEQ.out.1, HEQ.out.2.1]; rfl, by rw [HEQ.out.2.2]; exact hNs.out⟩, HCs.out⟩
end Go.Proofs.YtlmbcclggaflaaaGreatDoor
namespace Go.Proofs.YtlmbcclggaflaaaGreatDoor
open Go Go.RowKit

theorem key_noc {l : List UInt8} (h : keyV l = 0) (c : UInt8) (hc : isKey c = false) : c ∉ l := by
  intro hm
  unfold keyV at h
  split at h
  · cases h
  · rename_i h2
    have ha : l.all isKey = true := by
      cases hh : l.all isKey with
      | true => rfl
      | false => exact absurd (Or.inl hh) h2
    rw [List.all_eq_true] at ha
    have := ha c hm
    rw [hc] at this
    cases this
theorem hexD_low (n : Nat) (h : n < 16) : 48 ≤ (hexD n).toNat := by
  have : ∀ k : Fin 16, 48 ≤ (hexD k.val).toNat := by decide
  exact this ⟨n, h⟩
theorem hexL_no : ∀ (l : List UInt8) (c : UInt8), c.toNat < 48 → c ∉ hexL l
  | [], c, _ => by simp [hexL]
  | x :: r, c, h => by
    have ih := hexL_no r c h
    have hx := x.toNat_lt
    have h1 := hexD_low (x.toNat / 16) (by omega)
    have h2 := hexD_low (x.toNat % 16) (by omega)
    intro hm
    unfold hexL at hm
    rcases List.mem_cons.1 hm with e | hm
    · rw [e] at h; omega
    · rcases List.mem_cons.1 hm with e | hm
      · rw [e] at h; omega
      · exact ih hm
theorem textV_no (l : List UInt8) (c : UInt8) (h : c.toNat < 45) : c ∉ (textV l).1 := by
  unfold textV
  split
  · simp
  · split
    · intro hm
      rw [List.mem_singleton] at hm
      rw [hm] at h
      exact absurd h (by decide)
    · exact hexL_no l c (by omega)
theorem keepT_noc (L : List Int) (c : UInt8) (h : c.toNat < 44) : c ∉ keepT L := by
  unfold keepT
  refine join_no _ _ _ (fun e => by rw [← e] at h; exact absurd h (by decide)) fun x hx => ?_
  rw [List.mem_map] at hx
  obtain ⟨k, _, rfl⟩ := hx
  exact dS_no k c (by omega)
theorem crashL_no10 {a b : Int} {L : List Int} {v : List UInt8} (hv : v = keepT L) : (10 : UInt8) ∉ crashL a b v := by
  intro hm
  unfold crashL at hm
  rcases List.mem_append.1 hm with hm | hm
  · exact dS_no a 10 (by decide) hm
  · rcases List.mem_cons.1 hm with e | hm
    · exact absurd e (by decide)
    · rcases List.mem_cons.1 hm with e | hm
      · split at e <;> exact absurd e (by decide)
      · rcases List.mem_cons.1 hm with e | hm
        · exact absurd e (by decide)
        · rw [hv] at hm
          exact keepT_noc L 10 (by decide) hm
theorem word_no10 (k : Int) : (10 : UInt8) ∉ wordL k := by
  unfold wordL
  repeat' split
  all_goals decide
theorem pol_no10 (a : Int) : (10 : UInt8) ∉ polL a := by
  unfold polL
  split <;> decide
/-- No string of an operation has a line feed. -/
theorem opT_no10 {o : OpD} (h : opGood o) : (10 : UInt8) ∉ opT o := by
  have hk10 : isKey 10 = false := by kernel_rfl
  intro hm
  unfold opT at hm
  rcases List.mem_append.1 hm with hm | hm
  · exact word_no10 _ hm
  · unfold opR at hm
    rcases h with ⟨h0, h1, h2, h3, h4⟩ | ⟨h0, h1, h2, h3, h4⟩ | ⟨h0, h1, h2, h3, h4⟩ | ⟨h0, h1, h2, h3, h4⟩ | ⟨h0, h1, h2, L, h3, h4⟩
    · rw [if_pos h0] at hm
      rcases List.mem_cons.1 hm with e | hm
      · exact absurd e (by decide)
      · rcases List.mem_append.1 hm with hm | hm
        · exact key_noc h3 10 hk10 hm
        · rcases List.mem_cons.1 hm with e | hm
          · exact absurd e (by decide)
          · exact textV_no _ 10 (by decide) hm
    · rw [if_neg (by omega), if_pos h0] at hm
      rcases List.mem_cons.1 hm with e | hm
      · exact absurd e (by decide)
      · exact key_noc h3 10 hk10 hm
    · rw [if_neg (by omega), if_neg (by omega), if_neg (by omega), if_neg (by omega)] at hm
      simp at hm
    · rw [if_neg (by omega), if_neg (by omega), if_pos h0] at hm
      rcases List.mem_cons.1 hm with e | hm
      · exact absurd e (by decide)
      · exact pol_no10 _ hm
    · rw [if_neg (by omega), if_neg (by omega), if_neg (by omega), if_pos h0] at hm
      rcases List.mem_cons.1 hm with e | hm
      · exact absurd e (by decide)
      · exact crashL_no10 h4 hm
theorem word_skip (k : Int) (h0 : 1 ≤ k) (h1 : k ≤ 8) : ∃ b r, wordL k = b :: r ∧ b ≠ 35 := by
  rcases (show k = 1 ∨ k = 2 ∨ k = 3 ∨ k = 4 ∨ k = 5 ∨ k = 6 ∨ k = 7 ∨ k = 8 by omega) with rfl | rfl | rfl | rfl | rfl | rfl | rfl | rfl
  all_goals exact ⟨_, _, rfl, by decide⟩
/-- No string of an operation is passed by. -/
theorem opT_skip {o : OpD} (h : opGood o) : skipL (opT o) = false := by
  obtain ⟨k0, k1⟩ := good_kind h
  obtain ⟨b, r, e, hb⟩ := word_skip o.kind k0 k1
  unfold skipL opT
  rw [e]
  simp [hb]
theorem rd_skip {x : List UInt8} {r : List (List UInt8)} {at' : Nat} {acc : List OpD} (h : skipL x = true) : rdL (x :: r) at' acc = rdL r (at' + 1) acc := by
  rw [rdL, if_pos h]
theorem rd_many {x : List UInt8} {r : List (List UInt8)} {at' : Nat} {acc : List OpD} (h : skipL x = false) (ha : acc.length = 2000) : rdL (x :: r) at' acc = ([], (at' : Int) + 1, 10) := by
  rw [rdL, if_neg (by rw [h]; decide), if_pos ha]
theorem rd_bad {x : List UInt8} {r : List (List UInt8)} {at' : Nat} {acc : List OpD} (h : skipL x = false) (ha : acc.length ≠ 2000) (he : opPE x ≠ 0) : rdL (x :: r) at' acc = ([], (at' : Int) + 1, 8) := by
  rw [rdL, if_neg (by rw [h]; decide), if_neg ha, if_neg he]
theorem rd_good {x : List UInt8} {r : List (List UInt8)} {at' : Nat} {acc : List OpD} (h : skipL x = false) (ha : acc.length ≠ 2000) (he : opPE x = 0) : rdL (x :: r) at' acc = rdL r (at' + 1) (acc ++ [opP x]) := by
  rw [rdL, if_neg (by rw [h]; decide), if_neg ha, if_pos he]
theorem rd_op {o : OpD} {r : List (List UInt8)} {at' : Nat} {acc : List OpD} (hg : opGood o) (ha : acc.length ≠ 2000) : rdL (opT o :: r) at' acc = rdL r (at' + 1) (acc ++ [o]) := by
  rw [rd_good (opT_skip hg) ha (opP_text hg).2, (opP_text hg).1]
theorem rd_nil (at' : Nat) (acc : List OpD) : rdL [] at' acc = (acc, 0, 0) := by rw [rdL]
/-- Lines that are the strings of operations, and lines that are passed by between them. -/
def LinesOf : List (List UInt8) → List OpD → Prop
  | [], L => L = []
  | x :: r, L => (skipL x = true ∧ LinesOf r L) ∨ ∃ o t, L = o :: t ∧ opGood o ∧ x = opT o ∧ LinesOf r t
theorem rd_lines : ∀ (X : List (List UInt8)) (L : List OpD) (r : List (List UInt8)) (at' : Nat) (acc : List OpD), LinesOf X L → acc.length + L.length ≤ 2000 → rdL (X ++ r) at' acc = rdL r (at' + X.length) (acc ++ L)
  | [], L, r, at', acc, h, _ => by
    rw [show L = [] from h, List.append_nil]
    rfl
  | x :: X, L, r, at', acc, h, hl => by
    rcases h with ⟨h1, h2⟩ | ⟨o, t, rfl, hg, rfl, h2⟩
    · rw [List.cons_append, rd_skip h1, rd_lines X L r _ acc h2 hl, List.length_cons]
      congr 1
      omega
    · rw [List.length_cons] at hl
      rw [List.cons_append, rd_op hg (by omega), rd_lines X t r _ _ h2 (by rw [List.length_append, List.length_singleton]; omega), List.length_cons, List.append_assoc]
      congr 1
      omega
theorem lines_append : ∀ (X Y : List (List UInt8)) (L M : List OpD), LinesOf X L → LinesOf Y M → LinesOf (X ++ Y) (L ++ M)
  | [], Y, L, M, h, h2 => by
    rw [show L = [] from h]
    exact h2
  | x :: X, Y, L, M, h, h2 => by
    rcases h with ⟨h1, h3⟩ | ⟨o, t, rfl, hg, rfl, h3⟩
    · exact Or.inl ⟨h1, lines_append X Y L M h3 h2⟩
    · exact Or.inr ⟨o, t ++ M, rfl, hg, rfl, lines_append X Y t M h3 h2⟩
theorem lines_cut : ∀ (X Y : List (List UInt8)) (L : List OpD), LinesOf (X ++ Y) L → ∃ M N, L = M ++ N ∧ LinesOf X M ∧ LinesOf Y N
  | [], Y, L, h => ⟨[], L, rfl, rfl, h⟩
  | x :: X, Y, L, h => by
    rcases h with ⟨h1, h3⟩ | ⟨o, t, rfl, hg, rfl, h3⟩
    · obtain ⟨M, N, e, hm, hn⟩ := lines_cut X Y L h3
      exact ⟨M, N, e, Or.inl ⟨h1, hm⟩, hn⟩
    · obtain ⟨M, N, rfl, hm, hn⟩ := lines_cut X Y t h3
      exact ⟨o :: M, N, rfl, Or.inr ⟨o, M, rfl, hg, rfl, hm⟩, hn⟩
/-- A line that is passed by may be inserted anywhere. -/
theorem lines_insert (X Y : List (List UInt8)) (x : List UInt8) (L : List OpD) (h : LinesOf (X ++ Y) L) (hx : skipL x = true) : LinesOf (X ++ x :: Y) L := by
  obtain ⟨M, N, rfl, hm, hn⟩ := lines_cut X Y L h
  exact lines_append X (x :: Y) M N hm (Or.inl ⟨hx, hn⟩)
theorem lines_ops : ∀ (L : List OpD), (∀ o ∈ L, opGood o) → LinesOf (L.map opT) L
  | [], _ => rfl
  | o :: t, h => Or.inr ⟨o, t, rfl, h o (by simp), rfl, lines_ops t fun p hp => h p (by simp [hp])⟩
theorem paL_cons (o : OpD) (t : List OpD) : paL (o :: t) = opT o ++ 10 :: paL t := by
  unfold paL
  rw [List.flatMap_cons, List.append_assoc]
  rfl
theorem paL_append (L M : List OpD) : paL (L ++ M) = paL L ++ paL M := by
  unfold paL
  rw [List.flatMap_append]
theorem pc_paL : ∀ (L : List OpD) (r : List UInt8), (∀ o ∈ L, opGood o) → pc 10 (paL L ++ r) = L.map opT ++ pc 10 r
  | [], r, _ => rfl
  | o :: t, r, h => by
    rw [paL_cons, List.append_assoc, List.cons_append, pc_app _ _ (opT_no10 (h o (by simp))), pc_paL t r fun p hp => h p (by simp [hp])]
    rfl
/-- Scripts are decoded from their strings. -/
theorem rdA_script {L : List OpD} {s : ByteArray} (hs : s.data.toList = paL L) (h : ∀ o ∈ L, opGood o) (hl : L.length ≤ 2000) (hz : (paL L).length ≤ 65536) : rdA s = (L, 0, 0) := by
  unfold rdA
  rw [← str_len, hs, if_neg (by omega)]
  have e := pc_paL L [] h
  rw [List.append_nil] at e
  rw [e, rd_lines _ L _ 0 [] (lines_ops L h) (by simpa using hl)]
  show rdL [[]] _ _ = _
  rw [rd_skip (by decide), rd_nil]
  rfl
theorem pa_good {L : List OpD} (h : ∀ o ∈ L, opGood o) (hl : L.length ≤ 2000) (hz : (paL L).length ≤ 65536) : paE L = 0 ∧ paT L = pack (paL L) := by
  have e : paE L = 0 := by
    unfold paE
    rw [if_neg (by omega), if_neg (fun ⟨o, ho, hn⟩ => hn (h o ho)), if_neg (by omega)]
  refine ⟨e, ?_⟩
  unfold paT
  rw [if_pos e]
theorem pa_many {L : List OpD} (h : 2000 < L.length) : paE L = 10 ∧ paT L = eB := by
  have e : paE L = 10 := by unfold paE; rw [if_pos h]
  refine ⟨e, ?_⟩
  unfold paT
  rw [if_neg (by rw [e]; decide)]
theorem pa_arg {L : List OpD} (h : ¬ 2000 < L.length) {o : OpD} (ho : o ∈ L) (hn : ¬ opGood o) : paE L = 2 ∧ paT L = eB := by
  have e : paE L = 2 := by unfold paE; rw [if_neg h, if_pos ⟨o, ho, hn⟩]
  refine ⟨e, ?_⟩
  unfold paT
  rw [if_neg (by rw [e]; decide)]
theorem pa_long {L : List OpD} (h : ¬ 2000 < L.length) (hg : ∀ o ∈ L, opGood o) (hz : 65536 < (paL L).length) : paE L = 9 ∧ paT L = eB := by
  have e : paE L = 9 := by unfold paE; rw [if_neg h, if_neg (fun ⟨o, ho, hn⟩ => hn (hg o ho)), if_pos hz]
  refine ⟨e, ?_⟩
  unfold paT
  rw [if_neg (by rw [e]; decide)]
theorem rdA_long {s : ByteArray} (h : 65536 < s.size) : rdA s = ([], 0, 9) := by unfold rdA; rw [if_pos h]
theorem rdL_len : ∀ (X : List (List UInt8)) (at' : Nat) (acc : List OpD), acc.length ≤ 2000 → (rdL X at' acc).1.length ≤ 2000
  | [], at', acc, h => by rw [rd_nil]; exact h
  | x :: X, at', acc, h => by
    unfold rdL
    split
    · exact rdL_len X _ _ h
    · split
      · simp
      · split
        · exact rdL_len X _ _ (by rw [List.length_append, List.length_singleton]; omega)
        · simp
end Go.Proofs.YtlmbcclggaflaaaGreatDoor
namespace Go.Proofs.YtlmbcclggaflaaaGreatDoor
open Go Go.RowKit

theorem sizeBuilder : (Tryz.prog.info? 79).map (fun i => decide (i.size ≠ 0)) = some true := by kernel_rfl
theorem liesBuilder : liesAt Tryz.prog Tryz.prog.depth 79 (2 / Tryz.prog.cellsOf 79) 0 79 1 = true := by kernel_rfl
theorem infoByte : (Tryz.prog.info? 5).map (fun i => (i.zero, i.size, i.bytes)) = some (some (.int .u8 0), 1, 1) := by kernel_rfl

set_option maxHeartbeats 1000000 in
set_option maxRecDepth 100000 in
theorem copyCheck_used (b : Nat) (w : World) (h0 : w.cell? ⟨b, 0, none⟩ = some (.pointer (some ⟨b, 0, none⟩))) :
    Calls Tryz.prog 82 #[.pointer (some ⟨b, 0, none⟩)] w fun e w' => e = .returned (.tuple #[]) ∧ w' = w := by
  obtain ⟨j, hj, _⟩ := Option.map_eq_some_iff.1 sizeBuilder
  go_enter Tryz.func82, Tryz.ntmps82
  go_wp2
  rw [Lib.run_neq_ptr_same w _ Tryz.underlying77 hj]
  go_wp2
  go_end0
  exact ⟨rfl, rfl⟩

set_option maxHeartbeats 1000000 in
set_option maxRecDepth 100000 in
theorem copyCheck_fresh (b : Nat) (w : World) (h0 : w.cell? ⟨b, 0, none⟩ = some (.pointer none)) (hsh : w.shape? b = some (79, 2)) (hfz : w.frozen? ⟨b, 0, none⟩ = false) :
    Calls Tryz.prog 82 #[.pointer (some ⟨b, 0, none⟩)] w fun e w' => e = .returned (.tuple #[]) ∧ w' = w.setCell ⟨b, 0, none⟩ (.pointer (some ⟨b, 0, none⟩)) := by
  obtain ⟨j, hj, hjs⟩ := Option.map_eq_some_iff.1 sizeBuilder
  go_enter Tryz.func82, Tryz.ntmps82
  go_wp2
  rw [Lib.run_to_unsafe w ⟨b, 0, none⟩ Tryz.underlying77 Tryz.underlying140 hj (of_decide_eq_true hjs) hsh (Nat.zero_lt_succ 1)]
  simp only [Result.andThen]
  rw [Oper.upon_value]
  go_wp2
  rw [run_callFunc_extern Tryz.func109 (by kernel_rfl) (by kernel_rfl) (by kernel_rfl) (e := Extern.AbiNoEscape.same) (by kernel_rfl)]
  rw [Lib.run_noEscape]
  simp only [Result.andThen]
  rw [Oper.upon_value]
  go_wp2
  rw [Lib.run_from_unsafe w ⟨b, 0, none⟩ Tryz.underlying140 Tryz.underlying77 hj hsh liesBuilder]
  simp only [Result.andThen]
  rw [Oper.upon_value]
  go_wp2
  go_end0
  exact ⟨rfl, rfl⟩

theorem copyCheck_any (B b : Nat) (bs : List Value) (w : World) (h : Lib.IsBuilder 79 5 B b bs w) :
    Calls Tryz.prog 82 #[.pointer (some ⟨b, 0, none⟩)] w fun e w' => e = .returned (.tuple #[]) ∧ (Lib.BuilderAt 79 5 B b (.pointer (some ⟨b, 0, none⟩)) bs w' ∧ Below B w w') := by
  rcases h with h | h
  · refine (copyCheck_fresh b w h.cell0 h.shape h.frozen0).mono ?_
    rintro e w' ⟨rfl, rfl⟩
    exact ⟨rfl, h.used _, (Below.refl B w).setCell (p := ⟨b, 0, none⟩) h.1 _⟩
  · refine (copyCheck_used b w h.cell0).mono ?_
    rintro e w' ⟨rfl, rfl⟩
    exact ⟨rfl, h, Below.refl B _⟩

set_option maxHeartbeats 2000000 in
set_option maxRecDepth 100000 in
theorem writeString_any (B b : Nat) (bs : List Value) (s : ByteArray) (w : World) (h : Lib.IsBuilder 79 5 B b bs w) (hlen : bs.length + s.size ≤ 140737488355328) (hBw : B ≤ w.heap.size) :
    Calls Tryz.prog 50 #[.pointer (some ⟨b, 0, none⟩), .string s] w fun e w' => e = .returned (.tuple #[.int .i64 s.size, .nilIface]) ∧ (Lib.BuilderAt 79 5 B b (.pointer (some ⟨b, 0, none⟩)) (bs ++ Lib.strCells s) w' ∧ Below B w w') := by
  obtain ⟨i0, hi, hz0, hz1, hz2⟩ := info_parts infoByte
  go_enter Tryz.func50, Tryz.ntmps50
  go_wp2_with (go_at_call 82; refine (copyCheck_any B b bs _ h).mono ?_)
  rintro e w1 ⟨rfl, h1, hb1⟩
  obtain ⟨hB, v, hbk, hown, hne⟩ := h1
  have c0 : w1.cell? ⟨b, 0, none⟩ = some (.pointer (some ⟨b, 0, none⟩)) := by rw [Lib.cell_of_heap hbk]; rfl
  have c1 : w1.cell? ⟨b, 1, none⟩ = some v := by rw [Lib.cell_of_heap hbk]; rfl
  go_wp2_with (at_builtin; refine Lib.wpList_append_own_string _ rfl _ _ 23 9 rfl B 5 i0 Tryz.underlying23 Tryz.underlying9 hi hz0 hz1 hz2 _ _ _ rfl hown s rfl ?c3 ?c4 ?c5 ?_)
  case c3 => unfold maxLen; omega
  case c4 => omega
  case c5 => have := hb1.size; omega
  intro v' w2 hown' hgrow _
  have hlt : b < w1.heap.size := by
    rcases Nat.lt_or_ge b w1.heap.size with h' | h'
    · exact h'
    · simp [Array.getElem?_eq_none h'] at hbk
  have hb2 : w2.heap[b]? = some (.cells #[.pointer (some ⟨b, 0, none⟩), v] 79 (0, 0)) := by
    rw [hgrow.block b hlt (fun e => hne e.symm)]
    exact hbk
  have d0 : w2.cell? ⟨b, 0, none⟩ = some (.pointer (some ⟨b, 0, none⟩)) := by rw [Lib.cell_of_heap hb2]; rfl
  have d1 : w2.cell? ⟨b, 1, none⟩ = some v := by rw [Lib.cell_of_heap hb2]; rfl
  have f1 : w2.frozen? ⟨b, 1, none⟩ = false := Lib.frozen_of_heap hb2 1
  obtain ⟨ao, n', cap, rfl⟩ : ∃ ao n' cap, v' = .slice ao n' cap := by
    rcases hown'.2 with ⟨hv, _⟩ | ⟨g, cap, cur, hv, _⟩
    · exact ⟨_, _, _, hv⟩
    · exact ⟨_, _, _, hv⟩
  go_wp2
  go_ret2
  refine ⟨rfl, ?_, ?_⟩
  · exact Lib.BuilderAt.put (T := 79) (e := 5) hB hb2 (bs' := bs ++ Lib.strCells s) (by simpa [Lib.strCells_length] using hown') (by decide)
  · exact (hb1.grown hgrow (by have := hb1.size; omega) (fun k hk => (hown.lt k hk).1)).setCell (p := ⟨b, 1, none⟩) hB _
end Go.Proofs.YtlmbcclggaflaaaGreatDoor
namespace Go.Proofs.YtlmbcclggaflaaaGreatDoor
open Go Go.RowKit

set_option maxRecDepth 100000 in
theorem badOp_any (k a b : Int) (x v : ByteArray) (hf : opFit ⟨k, a, b, x, v⟩) (m : Int) (w : World) (he : Env m w) (y : Bool) (hy : (prE ⟨k, a, b, x, v⟩ != 0) = y) :
    Calls Tryz.prog 55 #[opA k a b x v] w fun e w' => e = .returned (.bool y) ∧ Below w.heap.size w w' := by
  obtain ⟨E, hE⟩ : ∃ E, prE ⟨k, a, b, x, v⟩ = E := ⟨_, rfl⟩
  rw [hE] at hy
  have hy2 : (!(E == 0)) = y := hy
  have HE := Lib.hid hE
  have HH := Lib.hid (And.intro hf he)
  clear hE hf he
  have c0 : Below w.heap.size w (w.alloc (.cells #[.int .i64 k, .int .i64 a, .int .i64 b, .string x, .string v] 28)) := (Below.refl _ _).alloc (Nat.le_refl _) _
  go_enter Tryz.func55, Tryz.ntmps55
  go_wp2_with fail
  refine (check_any39 k a b x v HH.out.1 m _ (HH.out.2.below c0)).mono ?_
  rw [HE.out]
  rintro e w1 ⟨rfl, b1⟩
  have c1 := c0.trans (b1.mono c0.size)
  clear b1 c0
  go_wp2_with fail
  go_ret
  exact ⟨rfl, c1⟩
def badP (L : List OpD) (K : Int) : Prop := (0 ≤ K ∧ ∃ o ∈ L, ¬ opGood o) ∨ (K = -1 ∧ ∀ o ∈ L, opGood o)
theorem prE_ne (o : OpD) : (prE o != 0) = false ↔ opGood o := by
  by_cases h : opGood o
  · rw [(pr_good h).2]
    exact ⟨fun _ => h, fun _ => rfl⟩
  · rw [(pr_bad h).2]
    exact ⟨fun e => absurd e (by decide), fun e => absurd e h⟩
theorem getD_mem {L : List OpD} {i : Nat} (h : i < L.length) : L.getD i zeroOp ∈ L := by
  rw [List.getD, List.getElem?_eq_getElem h]
  exact List.getElem_mem h
set_option maxRecDepth 100000 in
set_option maxHeartbeats 2000000 in
theorem idxOps_any (p : Option Addr) (c : Nat) (L : List OpD) (hf : ∀ o ∈ L, opFit o) (hl : L.length ≤ 1099511627776) (m : Int) (w : World) (he : Env m w) (hv : OpsAt w (.slice p L.length c) L) :
    Calls Tryz.prog 84 #[.slice p L.length c, .func (.func 55) #[] #[]] w fun e w' => (∃ K, e = .returned (.int .i64 K) ∧ badP L K) ∧ Below w.heap.size w w' := by
  have HF := Lib.hid hf
  have HE := Lib.hid he
  have HV := Lib.hid hv
  have HLL := Lib.hid hl
  clear hf he hv hl
  go_enter Tryz.func84, Tryz.ntmps84
  go_wp2_with fail
  go_loopw [5, 8] (fun _ s8 wr => ∃ i : Nat, i ≤ L.length ∧ s8 = .int .i64 i ∧ Hid (∀ j : Nat, j < i → opGood (L.getD j zeroOp)) ∧ Hid (Below w.heap.size w wr)) (fun _ s8 _ => L.length - (intOf s8).toNat)
  case atStart => exact ⟨0, Nat.zero_le _, rfl, fun j hj => absurd hj (Nat.not_lt_zero _), Below.refl _ _⟩
  case round =>
    obtain ⟨i, hi, rfl, hA, hB⟩ := hrel
    by_cases hlt : i < L.length
    · obtain ⟨p', c', hpe, _, hc⟩ := HV.out
      injection hpe with e1 e2 e3
      subst e1 e3
      obtain ⟨bb, o, rfl, hcell⟩ := hc (by omega)
      obtain ⟨z0, z1, z2, z3, z4⟩ := hcell i hlt
      have hfit := HF.out _ (getD_mem hlt)
      have HLT := Lib.hid hlt
      have hgood := prE_ne (L.getD i zeroOp)
      obtain ⟨q, hq⟩ : ∃ q, L.getD i zeroOp = q := ⟨_, rfl⟩
      rw [hq] at z0 z1 z2 z3 z4 hfit hgood
      have HQ := Lib.hid hq
      clear hq hcell hc
      obtain ⟨qk, qa, qb, qx, qv⟩ := q
      replace z0 := cell_kept z0 hB.out
      replace z1 := cell_kept z1 hB.out
      replace z2 := cell_kept z2 hB.out
      replace z3 := cell_kept z3 hB.out
      replace z4 := cell_kept z4 hB.out
      obtain ⟨y, hy⟩ : ∃ y, (prE ⟨qk, qa, qb, qx, qv⟩ != 0) = y := ⟨_, rfl⟩
      have HCL := Lib.hid (badOp_any qk qa qb qx qv hfit m wr (HE.out.below hB.out) y hy)
      rw [hy] at hgood
      have HGD := Lib.hid hgood
      clear hy hgood hfit
      have hsum : IntKind.i64.wrap ((i : Int) + 1) = (i : Int) + 1 := IntWalk.i64_in _ (by have := HLL.out; omega)
      cases y with
      | true =>
        have HBD : Hid (∃ o ∈ L, ¬ opGood o) := ⟨_, getD_mem HLT.out, fun h => by
          rw [HQ.out] at h
          have := HGD.out.2 h
          cases this⟩
        go_wp2_with fail
        refine HCL.out.mono ?_
        rintro e w2 ⟨rfl, b2⟩
        have c2 := hB.out.trans (b2.mono hB.out.size)
        go_wp2_with fail
        go_ret
        exact ⟨⟨_, rfl, Or.inl ⟨by omega, HBD.out⟩⟩, c2⟩
      | false =>
        have HW : Hid (∀ j : Nat, j < i + 1 → opGood (L.getD j zeroOp)) := by
          intro j hj
          by_cases e : j = i
          · subst e
            rw [HQ.out]
            exact HGD.out.1 rfl
          · exact hA.out j (by omega)
        go_wp2_with fail
        refine HCL.out.mono ?_
        rintro e w2 ⟨rfl, b2⟩
        have c2 := Lib.hid (hB.out.trans (b2.mono hB.out.size))
        go_wp2_with fail
        go_roundw
        case rel => exact ⟨i + 1, by omega, by go_num, HW, c2⟩
        case measure => simp [intOf]; omega
    · obtain rfl : i = L.length := by omega
      go_wp2_with fail
      go_ret
      refine ⟨⟨_, rfl, Or.inr ⟨rfl, fun o ho => ?_⟩⟩, hB.out⟩
      obtain ⟨j, hj, rfl⟩ := List.getElem_of_mem ho
      have := hA.out j hj
      rw [List.getD, List.getElem?_eq_getElem hj] at this
      exact this
end Go.Proofs.YtlmbcclggaflaaaGreatDoor
namespace Go.Proofs.YtlmbcclggaflaaaGreatDoor
open Go Go.RowKit

theorem containsOps_any (p : Option Addr) (c : Nat) (L : List OpD) (hf : ∀ o ∈ L, opFit o) (hl : L.length ≤ 1099511627776) (m : Int) (w : World) (he : Env m w) (hv : OpsAt w (.slice p L.length c) L) (y : Bool) (hy : y = false ↔ ∀ o ∈ L, opGood o) :
    Calls Tryz.prog 54 #[.slice p L.length c, .func (.func 55) #[] #[]] w fun e w' => e = .returned (.bool y) ∧ Below w.heap.size w w' := by
  have H := Lib.hid (idxOps_any p c L hf hl m w he hv)
  have HY := Lib.hid hy
  clear hf hl he hv hy
  go_enter Tryz.func54, Tryz.ntmps54
  go_wp2_with fail
  refine H.out.mono ?_
  rintro e w1 ⟨⟨K, rfl, hK⟩, b1⟩
  have d0 : decide (0 ≤ K) = y := by
    cases y with
    | true =>
      rcases hK with ⟨h1, _⟩ | ⟨_, h2⟩
      · exact decide_eq_true h1
      · have := HY.out.2 h2
        cases this
    | false =>
      rcases hK with ⟨_, o, h2, h3⟩ | ⟨h1, _⟩
      · exact absurd (HY.out.1 rfl o h2) h3
      · exact decide_eq_false (by omega)
  clear hK
  go_wp2_with fail
  go_ret
  exact ⟨rfl, b1⟩
theorem opT_len {o : OpD} (h : opGood o) : (opT o).length ≤ 1300 := by
  have hw : ∀ k : Int, (wordL k).length ≤ 6 := by
    intro k
    unfold wordL
    repeat' split
    all_goals decide
  have hp : ∀ a : Int, (polL a).length ≤ 7 := by
    intro a
    unfold polL
    split <;> decide
  have h1 := hw o.kind
  unfold opT
  rw [List.length_append]
  have h2 : (opR o).length ≤ 1290 := by
    unfold opR
    rcases h with ⟨h0, _, _, h3, h4⟩ | ⟨h0, _, _, h3, h4⟩ | ⟨h0, _⟩ | ⟨h0, _⟩ | ⟨h0, h5, _, L, h3, h4⟩
    · rw [if_pos h0]
      have e1 := key_len h3
      have e2 : (textV o.val.data.toList).1.length ≤ 1024 := by
        unfold textV
        rw [str_len]
        split
        · simp
        · split
          · simp
          · rw [hexL_length, str_len]
            omega
      simp only [List.length_cons, List.length_append]
      omega
    · rw [if_neg (by omega), if_pos h0]
      have e1 := key_len h3
      simp only [List.length_cons]
      omega
    · rw [if_neg (by omega), if_neg (by omega), if_neg (by omega), if_neg (by omega)]
      simp
    · rw [if_neg (by omega), if_neg (by omega), if_pos h0]
      have := hp o.a
      simp only [List.length_cons]
      omega
    · rw [if_neg (by omega), if_neg (by omega), if_neg (by omega), if_pos h0]
      have g := planOK_parts h3
      have e1 := dS_len o.a g.2.1
      have e2 := keepT_len L 34 (fun k hk => by have := (g.2.2.2.2 k hk).2; omega) g.2.2.2.1
      unfold crashL
      rw [h4]
      simp only [List.length_cons, List.length_append]
      omega
  omega
theorem paL_take (L : List OpD) (i : Nat) (h : i < L.length) : paL (L.take (i + 1)) = paL (L.take i) ++ (opT (L.getD i zeroOp) ++ [10]) := by
  rw [List.take_succ_eq_append_getElem h, paL_append, List.getD, List.getElem?_eq_getElem h]
  unfold paL
  simp
theorem paL_le (L : List OpD) (i : Nat) : (paL (L.take i)).length ≤ (paL L).length := by
  conv => rhs; rw [← List.take_append_drop i L, paL_append, List.length_append]
  omega
set_option maxRecDepth 100000 in
set_option maxHeartbeats 4000000 in
theorem printAll_any (v : Value) (L : List OpD) (hf : ∀ o ∈ L, opFit o) (hl : L.length ≤ 1099511627776) (m : Int) (w : World) (he : Env m w) (hv : OpsAt w v L) :
    Calls Tryz.prog 16 #[v] w fun e w' => e = .returned (.tuple #[.string (paT L), .int .i64 (paE L)]) ∧ Below w.heap.size w w' := by
  obtain ⟨p, c, rfl, hc, hcell⟩ := hv
  have HV : Hid (OpsAt w (.slice p L.length c) L) := ⟨p, c, rfl, hc, hcell⟩
  have HF := Lib.hid hf
  have HE := Lib.hid he
  have HC := Lib.hid hcell
  by_cases hm : 2000 < L.length
  · have d0 : decide (2000 < (L.length : Int)) = true := by rw [decide_eq_true_iff]; omega
    have HP := Lib.hid (pa_many hm)
    clear hf hl he hc hcell hm HV HF HE HC
    go_enter Tryz.func16, Tryz.ntmps16
    go_wp2_with fail
    go_ret2
    exact ⟨by rw [HP.out.1, HP.out.2]; rfl, Below.refl _ _⟩
  · have d0 : decide (2000 < (L.length : Int)) = false := by rw [decide_eq_false_iff_not]; omega
    have HM := Lib.hid hm
    obtain ⟨y, hy⟩ : ∃ y : Bool, y = false ↔ ∀ o ∈ L, opGood o := by
      by_cases h : ∀ o ∈ L, opGood o
      · exact ⟨false, ⟨fun _ => h, fun _ => rfl⟩⟩
      · exact ⟨true, ⟨fun e => absurd e (by decide), fun e => absurd e h⟩⟩
    have HY := Lib.hid hy
    have HCO := Lib.hid (containsOps_any p c L hf hl m w he HV.out y hy)
    clear hf hl he hc hcell hm hy
    cases y with
    | true =>
      have HP : Hid (paE L = 2 ∧ paT L = eB) := by
        have : ¬ ∀ o ∈ L, opGood o := fun h => by
          have := HY.out.2 h
          cases this
        obtain ⟨o, ho⟩ := Classical.not_forall.1 this
        obtain ⟨h1, h2⟩ := Classical.not_imp.1 ho
        exact pa_arg HM.out h1 h2
      clear HV HF HE HC
      go_enter Tryz.func16, Tryz.ntmps16
      go_wp2_with fail
      refine HCO.out.mono ?_
      rintro e w1 ⟨rfl, b1⟩
      go_wp2_with fail
      go_ret2
      exact ⟨by rw [HP.out.1, HP.out.2]; rfl, b1⟩
    | false =>
      have HG : Hid (∀ o ∈ L, opGood o) := HY.out.1 rfl
      clear HY
      go_enter Tryz.func16, Tryz.ntmps16
      go_wp2_with fail
      refine HCO.out.mono ?_
      rintro e w1 ⟨rfl, b1⟩
      have HB := Lib.hid (Lib.fresh_isBuilder 79 5 w1)
      have a2 := (Below.refl w1.heap.size w1).alloc (Nat.le_refl _) (.cells #[.pointer none, .slice none 0 0] 79)
      have H1 := Lib.hid b1
      have A2 := Lib.hid a2
      clear b1 a2 HCO
      go_wp2_with fail
      go_loopw [18] (fun s18 wr => ∃ i : Nat, i ≤ L.length ∧ s18 = .int .i64 i ∧ Hid ((paL (L.take i)).length ≤ 65536) ∧ Hid (Lib.IsBuilder 79 5 w1.heap.size w1.heap.size (Lib.byteCells (paL (L.take i))) wr) ∧ Hid (Below w1.heap.size w1 wr)) (fun s18 _ => L.length - (intOf s18).toNat)
      case atStart => exact ⟨0, Nat.zero_le _, rfl, by show (paL (L.take 0)).length ≤ 65536; rw [List.take_zero]; decide, by rw [List.take_zero]; exact HB, A2⟩
      case round =>
        obtain ⟨i, hi, rfl, hZ, hbd, hB⟩ := hrel
        clear HB A2
        by_cases hlt : i < L.length
        · have HLT := Lib.hid hlt
          have HWr := Lib.hid (H1.out.trans (hB.out.mono H1.out.size))
          obtain ⟨bb, o, rfl, hcell⟩ := HC.out (by omega)
          obtain ⟨z0, z1, z2, z3, z4⟩ := hcell i hlt
          have hfit := HF.out _ (getD_mem hlt)
          have hgd := HG.out _ (getD_mem hlt)
          have hpt := paL_take L i hlt
          obtain ⟨q, hq⟩ : ∃ q, L.getD i zeroOp = q := ⟨_, rfl⟩
          rw [hq] at z0 z1 z2 z3 z4 hfit hgd hpt
          clear hq hcell
          obtain ⟨qk, qa, qb, qx, qv⟩ := q
          replace z0 := cell_kept z0 HWr.out
          replace z1 := cell_kept z1 HWr.out
          replace z2 := cell_kept z2 HWr.out
          replace z3 := cell_kept z3 HWr.out
          replace z4 := cell_kept z4 HWr.out
          obtain ⟨e1, e2⟩ := pr_good hgd
          have hol := opT_len hgd
          obtain ⟨T, hT⟩ : ∃ T, pack (opT ⟨qk, qa, qb, qx, qv⟩) = T := ⟨_, rfl⟩
          rw [hT] at e1
          have hTs : T.size ≤ 1300 := by rw [← hT, pack_size]; exact hol
          have q1 : ¬ 9223372036854775807 < T.size + 1 := by omega
          obtain ⟨P, hP⟩ : ∃ P, T ++ ⟨#[10]⟩ = P := ⟨_, rfl⟩
          have hPs : P.size ≤ 1301 := by
            rw [← hP, ByteArray.size_append]
            have : (⟨#[10]⟩ : ByteArray).size = 1 := rfl
            omega
          have HPP := Lib.hid hP
          have hPl : P.data.toList = opT ⟨qk, qa, qb, qx, qv⟩ ++ [10] := by
            rw [← hP, ← hT]
            simp [pack]
          have hbytes : Lib.byteCells (paL (L.take i)) ++ Lib.strCells P = Lib.byteCells (paL (L.take (i + 1))) := by
            rw [hpt, Lib.byteCells_append, ← hPl]
            rfl
          have HBY := Lib.hid hbytes
          have HPS := Lib.hid hPs
          have HPR := Lib.hid (And.intro hfit (And.intro e1 e2))
          have a3 := (Below.refl wr.heap.size wr).alloc (Nat.le_refl _) (.cells #[.int .i64 qk, .int .i64 qa, .int .i64 qb, .string qx, .string qv] 28)
          have HB3 := Lib.hid (hB.out.trans (a3.mono hB.out.size))
          have HW3 := Lib.hid (HWr.out.trans (a3.mono HWr.out.size))
          have HD3 := Lib.hid (builder_below hbd.out a3)
          have HO3 := Lib.hid (OpBox.new wr qk qa qb qx qv 28)
          have hsum : IntKind.i64.wrap ((i : Int) + 1) = (i : Int) + 1 := IntWalk.i64_in _ (by have := HM.out; omega)
          clear hfit hgd hpt e1 e2 hol hT hP hPl hbytes a3 hbd hB HWr hTs hPs
          go_upto_region 9 with fail
          generalize (wr.alloc (.cells #[.int .i64 qk, .int .i64 qa, .int .i64 qb, .string qx, .string qv] 28)) = w3 at *
          obtain ⟨B3, hB3⟩ : ∃ B3, wr.heap.size = B3 := ⟨_, rfl⟩
          rw [hB3] at HO3
          rw [hB3]
          obtain ⟨⟨k0, k1, k2, k3, k4⟩, kf⟩ := HO3.out
          clear hB3 kf z0 z1 z2 z3 z4
          go_wp2_with fail
          refine (print_any qk qa qb qx qv HPR.out.1 m _ (HE.out.below HW3.out)).mono ?_
          rw [HPR.out.2.1, HPR.out.2.2]
          rintro e w4 ⟨rfl, b4⟩
          have HB4 := Lib.hid (HB3.out.trans (b4.mono HB3.out.size))
          have HD4 := Lib.hid (builder_below HD3.out b4)
          clear b4 k0 k1 k2 k3 k4 HO3 HB3 HW3 HD3
          go_wp2_with fail
          rw [HPP.out]
          refine (writeString_any w1.heap.size w1.heap.size _ P _ HD4.out (by have h1 := HPS.out; have h2 := hZ.out; rw [Lib.byteCells_length]; omega) HB4.out.size).mono ?_
          rw [HBY.out]
          rintro e w5 ⟨rfl, hbd5, hb5⟩
          have HB5 := Lib.hid (HB4.out.trans hb5)
          have HD5 : Hid (Lib.IsBuilder 79 5 w1.heap.size w1.heap.size (Lib.byteCells (paL (L.take (i + 1)))) w5) := Or.inr hbd5
          clear hb5 HB4 HD4 hbd5
          go_wp2_with fail
          refine (keeps (Tryz.Builder_Len w1.heap.size w1.heap.size _ w5 HD5.out)).mono ?_
          rw [Lib.byteCells_length]
          rintro e w6 ⟨rfl, rfl⟩
          by_cases hbig : 65536 < (paL (L.take (i + 1))).length
          · have d1 : decide (65536 < ((paL (L.take (i + 1))).length : Int)) = true := by rw [decide_eq_true_iff]; omega
            have HP := Lib.hid (pa_long HM.out HG.out (Nat.lt_of_lt_of_le hbig (paL_le L (i + 1))))
            have c6 := H1.out.trans (HB5.out.mono H1.out.size)
            clear hbig
            go_wp2_with fail
            go_ret2
            exact ⟨by rw [HP.out.1, HP.out.2]; rfl, c6⟩
          · have d1 : decide (65536 < ((paL (L.take (i + 1))).length : Int)) = false := by rw [decide_eq_false_iff_not]; omega
            have HZ : Hid ((paL (L.take (i + 1))).length ≤ 65536) := Nat.le_of_not_lt hbig
            clear hbig
            go_wp2_with fail
            go_roundw
            case rel => exact ⟨i + 1, by omega, by go_num, HZ, HD5, HB5⟩
            case measure => simp [intOf]; omega
        · obtain rfl : i = L.length := by omega
          have HZ := hZ.out
          rw [List.take_length] at hbd HZ
          have HP := Lib.hid (pa_good HG.out (by have := HM.out; omega) HZ)
          have c6 := H1.out.trans (hB.out.mono H1.out.size)
          clear HZ
          go_wp2_with fail
          refine (Tryz.Builder_String_any w1.heap.size w1.heap.size _ _ hbd.out hB.out.size).mono ?_
          rintro e w6 ⟨rfl, b6⟩
          have c7 := H1.out.trans ((hB.out.trans b6).mono H1.out.size)
          go_wp2_with fail
          go_ret2
          exact ⟨by rw [HP.out.1, HP.out.2]; rfl, c7⟩
end Go.Proofs.YtlmbcclggaflaaaGreatDoor
namespace Go.Proofs.YtlmbcclggaflaaaGreatDoor
open Go Go.RowKit

/-- Where the reference stands: lines up to fr are read, the byte i is looked at, F will be the result. -/
def LS (l : List UInt8) (F : List OpD × Int × Int) (fr at' i : Nat) (acc : List OpD) : Prop :=
  fr ≤ i ∧ at' ≤ fr ∧ acc.length ≤ 2000 ∧ ((i ≤ l.length ∧ (10 : UInt8) ∉ (l.drop fr).take (i - fr) ∧ rdL (pc 10 (l.drop fr)) at' acc = F) ∨ (i = l.length + 1 ∧ F = (acc, 0, 0)))
theorem LS.start (l : List UInt8) : LS l (rdL (pc 10 l) 0 []) 0 0 0 [] :=
  ⟨Nat.le_refl _, Nat.le_refl _, by simp, Or.inl ⟨Nat.zero_le _, by simp, rfl⟩⟩
theorem drop_get (l : List UInt8) (i : Nat) (h : i < l.length) : l.drop i = l.getD i 0 :: l.drop (i + 1) := by
  rw [List.drop_eq_getElem_cons h, List.getD, List.getElem?_eq_getElem h]
  rfl
theorem take_more (l : List UInt8) (fr i : Nat) (h : fr ≤ i) (hi : i < l.length) : (l.drop fr).take (i + 1 - fr) = (l.drop fr).take (i - fr) ++ [l.getD i 0] := by
  have hl : i - fr < (l.drop fr).length := by rw [List.length_drop]; omega
  rw [show i + 1 - fr = (i - fr) + 1 by omega, List.take_succ_eq_append_getElem hl, List.getElem_drop, List.getD]
  have e : fr + (i - fr) = i := by omega
  simp only [e, List.getElem?_eq_getElem hi, Option.getD_some]
theorem LS.pass {l : List UInt8} {F : List OpD × Int × Int} {fr at' i : Nat} {acc : List OpD} (h : LS l F fr at' i acc) (hi : i < l.length) (hb : l.getD i 0 ≠ 10) : LS l F fr at' (i + 1) acc := by
  obtain ⟨h1, h2, h3, h4⟩ := h
  refine ⟨by omega, h2, h3, Or.inl ?_⟩
  rcases h4 with ⟨h4, h5, h6⟩ | ⟨h4, _⟩
  · refine ⟨by omega, ?_, h6⟩
    rw [take_more l fr i h1 hi]
    intro hm
    rcases List.mem_append.1 hm with hm | hm
    · exact h5 hm
    · rw [List.mem_singleton] at hm
      exact hb hm.symm
  · omega
theorem LS.line {l : List UInt8} {F : List OpD × Int × Int} {fr at' i : Nat} {acc : List OpD} (h : LS l F fr at' i acc) (hi : i ≤ l.length) (hb : i < l.length → l.getD i 0 = 10) :
    ∃ R, rdL ((l.drop fr).take (i - fr) :: R) at' acc = F ∧ ∀ acc', acc'.length ≤ 2000 → rdL R (at' + 1) acc' = F → LS l F (i + 1) (at' + 1) (i + 1) acc' := by
  obtain ⟨h1, h2, h3, h4⟩ := h
  rcases h4 with ⟨h4, h5, h6⟩ | ⟨h4, _⟩
  · by_cases hlt : i < l.length
    · have e : l.drop fr = (l.drop fr).take (i - fr) ++ 10 :: l.drop (i + 1) := by
        conv => lhs; rw [← List.take_append_drop (i - fr) (l.drop fr), List.drop_drop, show fr + (i - fr) = i by omega, drop_get l i hlt, hb hlt]
      refine ⟨pc 10 (l.drop (i + 1)), ?_, fun acc' ha hr => ⟨Nat.le_refl _, by omega, ha, Or.inl ⟨by omega, by simp, hr⟩⟩⟩
      rw [← h6]
      conv => rhs; rw [e, pc_app _ _ h5]
    · have e : l.drop fr = (l.drop fr).take (i - fr) := by
        rw [List.take_of_length_le]
        rw [List.length_drop]
        omega
      refine ⟨[], ?_, fun acc' ha hr => ⟨Nat.le_refl _, by omega, ha, Or.inr ⟨by omega, ?_⟩⟩⟩
      · rw [← h6]
        conv => rhs; rw [e, pc_word _ h5]
      · rw [rd_nil] at hr
        exact hr.symm
  · omega
theorem LS.stop {l : List UInt8} {F : List OpD × Int × Int} {fr at' i : Nat} {acc : List OpD} (h : LS l F fr at' i acc) (hi : i = l.length + 1) : F = (acc, 0, 0) := by
  rcases h.2.2.2 with ⟨h4, _⟩ | ⟨_, h4⟩
  · omega
  · exact h4
theorem skip_nil : skipL [] = true := rfl
theorem skip_cons (b : UInt8) (r : List UInt8) : skipL (b :: r) = decide (b = 35) := by
  unfold skipL
  simp
theorem pe_cases (l : List UInt8) : opPE l = 0 ∨ opPE l = 8 := by
  rcases opP_cases l with ⟨_, _, h⟩ | ⟨_, h, _⟩
  · exact Or.inl h
  · exact Or.inr h
end Go.Proofs.YtlmbcclggaflaaaGreatDoor
namespace Go.Proofs.YtlmbcclggaflaaaGreatDoor
open Go Go.RowKit

theorem run_slice_str {P : Program} (s : ByteArray) (t : TypeId) (ht : P.underlying t = some .string) (x y : Int) (i j : Nat) (hx : x = (i : Int)) (hy : y = (j : Int)) (hij : i ≤ j) (hj : j ≤ s.size) (wx : World) :
    (Instr.slice t (.string s) (some (.int .i64 x)) (some (.int .i64 y)) none).run P wx = .ok (.string (s.extract i j)) wx := by
  subst hx hy
  have h1 : (i : Int) ≤ (j : Int) := by omega
  have h2 : (j : Int) ≤ (s.size : Int) := by omega
  simp [Instr.slice, run_underlying ht, Instr.sliceBounds, run_sliceBound, h1, h2]
theorem str_app1 (x y : UInt8) : (⟨#[x]⟩ ++ ⟨#[y]⟩ : ByteArray).toList = [x, y] := by
  rw [ByteArray.toList_eq, show (⟨#[x]⟩ : ByteArray) = ⟨[x].toArray⟩ from rfl, show (⟨#[y]⟩ : ByteArray) = ⟨[y].toArray⟩ from rfl, str_append]
  rfl
theorem extract_two (s : ByteArray) (i : Nat) (h : i + 2 ≤ s.size) : s.extract i (i + 2) = ⟨[s.data.toList.getD i 0, s.data.toList.getD (i + 1) 0].toArray⟩ := by
  have e : (s.extract i (i + 2)).data.toList = [s.data.toList.getD i 0, s.data.toList.getD (i + 1) 0] := by
    have hb : ∀ n, n < s.size → n < s.data.size := fun n hn => hn
    have hlen : s.data.toList.length = s.size := Array.length_toList
    apply List.ext_getElem
    · simp
      have : s.data.size = s.size := rfl
      omega
    · intro n h1 h2
      simp at h2
      match n, h2 with
      | 0, _ =>
        simp [List.getD]
        rw [Array.getElem?_eq_getElem (hb i (by omega))]
        rfl
      | 1, _ =>
        simp [List.getD]
        rw [Array.getElem?_eq_getElem (hb (i + 1) (by omega))]
        rfl
  rw [← e, str_back]
end Go.Proofs.YtlmbcclggaflaaaGreatDoor
namespace Go.Proofs.YtlmbcclggaflaaaGreatDoor
open Go Go.RowKit

theorem infoOp : (Tryz.prog.info? 28).map (fun i => (i.zero, i.size, i.bytes)) = some (some (.agg #[.int .i64 0, .int .i64 0, .int .i64 0, .string ⟨#[]⟩, .string ⟨#[]⟩]), 5, 56) := by kernel_rfl
theorem opsC_snoc (L : List OpD) (o : OpD) : L.flatMap opC ++ opC o = (L ++ [o]).flatMap opC := by simp
theorem new5 (w : World) (o : OpD) (t : TypeId) : ∀ (j : Nat) u, (opC o)[j]? = some u → (w.alloc (.cells #[.int .i64 o.kind, .int .i64 o.a, .int .i64 o.b, .string o.key, .string o.val] t)).cell? ((⟨w.heap.size, 0, none⟩ : Addr).add j) = some u := by
  intro j u h
  have e : ((⟨w.heap.size, 0, none⟩ : Addr).add (j : Nat)) = ⟨w.heap.size, j, none⟩ := by
    simp [Addr.add]
    intro h
    exact h.symm
  rw [e]
  refine new_cell _ _ j u ?_
  rw [← h]
  simp [opC]
set_option maxRecDepth 100000 in
set_option maxHeartbeats 8000000 in
theorem rparseAll_any (s : ByteArray) (hs : s.size ≤ 100000) (w : World) :
    Calls Tryz.prog 30 #[.string s] w fun e w' => (∃ v, e = .returned (.tuple #[v, .int .i64 (rdA s).2.1, .int .i64 (rdA s).2.2]) ∧ OpsNew w.heap.size w' v (rdA s).1) ∧ Below w.heap.size w w' := by
  by_cases hbig : 65536 < s.size
  · have d0 : decide (65536 < (s.size : Int)) = true := by rw [decide_eq_true_iff]; omega
    have HP := Lib.hid (rdA_long hbig)
    clear hbig hs
    go_enter Tryz.func30, Tryz.ntmps30
    go_wp2_with fail
    go_ret3
    rw [HP.out]
    exact ⟨⟨_, rfl, OpsNew.nil _ _⟩, Below.refl _ _⟩
  · have d0 : decide (65536 < (s.size : Int)) = false := by rw [decide_eq_false_iff_not]; omega
    obtain ⟨i0, hi0, hz0, hz1, hz2⟩ := info_parts infoOp
    obtain ⟨FA, FN, FE, hF⟩ : ∃ FA FN FE, rdL (pc 10 s.data.toList) 0 [] = (FA, FN, FE) := ⟨_, _, _, rfl⟩
    have hR : rdA s = (FA, FN, FE) := by unfold rdA; rw [if_neg hbig]; exact hF
    rw [hR]
    have hS := LS.start s.data.toList
    rw [hF] at hS
    have HS := Lib.hid hS
    have HL := Lib.hid (str_len s)
    have HSZ := Lib.hid hs
    clear hF hR hS hbig hs
    show Calls Tryz.prog 30 #[.string s] w fun e w' => (∃ v, e = .returned (.tuple #[v, .int .i64 FN, .int .i64 FE]) ∧ OpsNew w.heap.size w' v FA) ∧ Below w.heap.size w w'
    go_enter Tryz.func30, Tryz.ntmps30
    go_wp2_with fail
    go_loopw [5, 6, 7, 8] (fun s5 s6 s7 s8 wr => ∃ (fr at' i : Nat) (acc : List OpD), s6 = .int .i64 fr ∧ s7 = .int .i64 at' ∧ s8 = .int .i64 i ∧ i ≤ s.size + 1 ∧ Hid (LS s.data.toList (FA, FN, FE) fr at' i acc) ∧ Hid (OpsNew w.heap.size wr s5 acc) ∧ Hid (Below w.heap.size w wr)) (fun _ _ _ s8 _ => s.size + 1 - (intOf s8).toNat)
    case atStart => exact ⟨0, 0, 0, [], rfl, rfl, rfl, Nat.zero_le _, HS, OpsNew.nil _ _, Below.refl _ _⟩
    case round =>
      obtain ⟨fr, at', i, acc, rfl, rfl, rfl, hi, hLS, hN, hB⟩ := hrel
      clear HS
      have hsz := HSZ.out
      have hsum : IntKind.i64.wrap ((i : Int) + 1) = (i : Int) + 1 := IntWalk.i64_in _ (by omega)
      by_cases hle : i ≤ s.size
      · have e0 : decide ((i : Int) ≤ (s.size : Int)) = true := by rw [decide_eq_true_iff]; omega
        by_cases hpass : i < s.size ∧ s.data.toList.getD i 0 ≠ 10
        · obtain ⟨hlt, hne⟩ := hpass
          have hix := run_str_at (P := Tryz.prog) s 9 Tryz.underlying9 .i64 (i : Int) i rfl hlt _ rfl
          obtain ⟨c, hc⟩ : ∃ c, s.data.toList.getD i 0 = c := ⟨_, rfl⟩
          rw [hc] at hix hne
          have e1 : decide ((i : Int) < (s.size : Int)) = true := by rw [decide_eq_true_iff]; omega
          have e2 : ((c.toNat : Int) != 10) = true := by
            rw [bne_iff_ne]
            intro e
            exact hne (UInt8.toNat_inj.mp (by show c.toNat = 10; omega))
          have e3 : ((c.toNat : Int) == 10) = false := by
            rw [beq_eq_false_iff_ne]
            intro e
            exact hne (UInt8.toNat_inj.mp (by show c.toNat = 10; omega))
          have HLS2 := Lib.hid (hLS.out.pass (by rw [HL.out]; exact hlt) (by rw [hc]; exact hne))
          clear hc hne hLS
          go_wp2_with fail
          go_roundw
          case rel => exact ⟨fr, at', i + 1, acc, rfl, rfl, by go_num, by omega, HLS2, hN, hB⟩
          case measure => simp [intOf]; omega
        · have hb : i < s.data.toList.length → s.data.toList.getD i 0 = 10 := by
            intro h
            rw [HL.out] at h
            exact Classical.byContradiction fun e => hpass ⟨h, e⟩
          obtain ⟨R, hr1, hr2⟩ := hLS.out.line (by rw [HL.out]; exact hle) hb
          have hfi : fr ≤ i := hLS.out.1
          have haf : at' ≤ fr := hLS.out.2.1
          have hacc : acc.length ≤ 2000 := hLS.out.2.2.1
          obtain ⟨X, hX⟩ : ∃ X, s.extract fr i = X := ⟨_, rfl⟩
          have hXl : X.data.toList = (s.data.toList.drop fr).take (i - fr) := by
            rw [← hX, Lib.extract_data]
          have hXs : X.size ≤ 100000 := by
            rw [← str_len, hXl, List.length_take, List.length_drop, HL.out]
            omega
          have isl : ∀ wx, (Instr.slice 9 (.string s) (some (.int .i64 (fr : Int))) (some (.int .i64 (i : Int))) none).run Tryz.prog wx = .ok (.string X) wx := fun wx => by
            rw [run_slice_str s 9 Tryz.underlying9 (fr : Int) (i : Int) fr i rfl rfl hfi hle wx, hX]
          have hat : IntKind.i64.wrap ((at' : Int) + 1) = (at' : Int) + 1 := IntWalk.i64_in _ (by omega)
          rw [← hXl] at hr1
          have HR1 := Lib.hid hr1
          have HR2 := Lib.hid hr2
          have HXS := Lib.hid hXs
          have HAC := Lib.hid hacc
          clear hr1 hr2 hXs hacc hfi haf hX hLS
          obtain ⟨p5, c5, rfl⟩ := ownsRow_slice hN.out
          go_upto_region 8 with fail
          go_cut [30] from 21 to 30 (fun b wx => b = .bool false ∧ Hid (wx = wr))
          case first =>
            by_cases hlt : i < s.size
            · have e1 : decide ((i : Int) < (s.size : Int)) = true := by rw [decide_eq_true_iff]; omega
              have hbb := hb (by rw [HL.out]; exact hlt)
              have hix := run_str_at (P := Tryz.prog) s 9 Tryz.underlying9 .i64 (i : Int) i rfl hlt 10 hbb.symm
              have e2 : (((10 : UInt8).toNat : Int) != 10) = false := rfl
              have e3 : (((10 : UInt8).toNat : Int) == 10) = true := rfl
              clear hbb hb hpass
              go_wp2_with fail
              go_meet
              exact ⟨rfl, rfl⟩
            · have e1 : decide ((i : Int) < (s.size : Int)) = false := by rw [decide_eq_false_iff_not]; omega
              clear hb hpass
              go_wp2_with fail
              go_meet
              exact ⟨rfl, rfl⟩
          case rest =>
            obtain ⟨rfl, hw⟩ := hcut
            obtain rfl := hw.out
            clear hb hpass
            have HXL : Hid (∃ x, X.data.toList = x) := ⟨_, rfl⟩
            clear hXl
            obtain ⟨x, hx⟩ : ∃ x, X.data.toList = x := ⟨_, rfl⟩
            rw [hx] at HR1
            cases x with
            | nil =>
              have d1 : X.toList.isEmpty = true := isEmpty_true (by rw [← str_len, hx]; rfl)
              have HNX := Lib.hid (HR2.out acc HAC.out (by have h := HR1.out; rw [rd_skip skip_nil] at h; exact h))
              clear hx HR1 HR2
              go_wp2_with fail
              go_roundw
              case rel => exact ⟨i + 1, at' + 1, i + 1, acc, by go_num, by go_num, by go_num, by omega, HNX, hN, hB⟩
              case measure => simp [intOf]; omega
            | cons b r =>
              have hlen : X.size = r.length + 1 := by rw [← str_len, hx]; rfl
              have d1 : X.toList.isEmpty = false := isEmpty_false (by omega)
              have hi0' := run_str_at (P := Tryz.prog) X 9 Tryz.underlying9 .i64 0 0 rfl (by omega) b (by rw [hx]; rfl)
              by_cases h35 : b = 35
              · have d2 : ((b.toNat : Int) == 35) = true := by rw [h35]; rfl
                have HNX := Lib.hid (HR2.out acc HAC.out (by have h := HR1.out; rw [rd_skip (by rw [skip_cons]; exact decide_eq_true h35)] at h; exact h))
                clear hx HR1 HR2 h35 hlen
                go_wp2_with fail
                go_roundw
                case rel => exact ⟨i + 1, at' + 1, i + 1, acc, by go_num, by go_num, by go_num, by omega, HNX, hN, hB⟩
                case measure => simp [intOf]; omega
              · have d2 : ((b.toNat : Int) == 35) = false := by
                  rw [beq_eq_false_iff_ne]
                  intro e
                  exact h35 (UInt8.toNat_inj.mp (by show b.toNat = 35; omega))
                have hsk : skipL (b :: r) = false := by rw [skip_cons]; exact decide_eq_false h35
                rw [← hx] at HR1 hsk
                have HSK := Lib.hid hsk
                clear hx h35 hlen hsk
                by_cases hmany : acc.length = 2000
                · have d3 : decide (2000 ≤ (acc.length : Int)) = true := by rw [decide_eq_true_iff]; omega
                  have hf := HR1.out
                  rw [rd_many HSK.out hmany] at hf
                  injection hf with h1 h2
                  injection h2 with h2 h3
                  subst h1 h2 h3
                  clear hmany HR1 HR2
                  go_wp2_with fail
                  go_ret3
                  exact ⟨⟨_, rfl, OpsNew.nil _ _⟩, hB.out⟩
                · have d3 : decide (2000 ≤ (acc.length : Int)) = false := by have := HAC.out; rw [decide_eq_false_iff_not]; omega
                  have HMN := Lib.hid hmany
                  clear hmany
                  have hpr := rparse39_any X HXS.out wc
                  obtain ⟨o, ho⟩ : ∃ o, opP X.data.toList = o := ⟨_, rfl⟩
                  obtain ⟨E, hE⟩ : ∃ E, opPE X.data.toList = E := ⟨_, rfl⟩
                  rw [ho, hE] at hpr
                  have hpc := pe_cases X.data.toList
                  rw [hE] at hpc
                  obtain ⟨ok, oa, ob, ox, ov⟩ := o
                  have hpr2 : Calls Tryz.prog 29 #[.string X] wc fun e w' => e = .returned (.tuple #[opA ok oa ob ox ov, .int .i64 E]) ∧ Below wc.heap.size wc w' := hpr
                  have HPR := Lib.hid hpr2
                  have HOE := Lib.hid (And.intro ho hE)
                  clear hpr hpr2 ho hE
                  go_wp2_with fail
                  refine HPR.out.mono ?_
                  rintro e w2 ⟨rfl, b2⟩
                  have a3 := (Below.refl w2.heap.size w2).alloc (Nat.le_refl _) (.cells #[.int .i64 ok, .int .i64 oa, .int .i64 ob, .string ox, .string ov] 28)
                  have HN3 := Lib.hid ((hN.out.below b2).below a3)
                  have c3 := Lib.hid ((hB.out.trans (b2.mono hB.out.size)).trans (a3.mono (Nat.le_trans hB.out.size b2.size)))
                  have HO3 := Lib.hid (OpBox.new w2 ok oa ob ox ov 28)
                  clear a3 b2 hN hB HPR
                  rcases hpc with rfl | rfl
                  · have HNX := Lib.hid (HR2.out (acc ++ [⟨ok, oa, ob, ox, ov⟩]) (by have h1 := HMN.out; have h2 := HAC.out; rw [List.length_append, List.length_singleton]; omega) (by have h := HR1.out; rw [rd_good HSK.out HMN.out HOE.out.2, HOE.out.1] at h; exact h))
                    clear HR1 HR2 HOE
                    go_upto_region 18 with fail
                    generalize (w2.alloc (.cells #[.int .i64 ok, .int .i64 oa, .int .i64 ob, .string ox, .string ov] 28)) = w3 at *
                    obtain ⟨B3, hB3⟩ : ∃ B3, w2.heap.size = B3 := ⟨_, rfl⟩
                    rw [hB3] at HO3
                    rw [hB3]
                    clear hB3
                    obtain ⟨⟨k0, k1, k2, k3, k4⟩, kf⟩ := HO3.out
                    clear kf
                    go_wp2_with (at_builtin; refine wpList_append_own _ rfl (.tmp 58) (.tmp 60) 35 rfl w.heap.size 28 i0 (.agg #[.int .i64 0, .int .i64 0, .int .i64 0, .string ⟨#[]⟩, .string ⟨#[]⟩]) 5 56 Tryz.underlying35 hi0 hz0 hz1 hz2 rfl (by decide) _ _ _ rfl (HN3.out.alloc _) ⟨w3.heap.size, 0, none⟩ 1 1 (opC ⟨ok, oa, ob, ox, ov⟩) rfl rfl (new5 _ ⟨ok, oa, ob, ox, ov⟩ _) (fun q hq => by simp [opC] at hq; rcases hq with rfl | rfl | rfl | rfl | rfl <;> rfl) (by have := HAC.out; unfold maxLen; omega) (by have := HAC.out; omega) (by have := c3.out.size; simp; omega) ?_)
                    intro v' w4 hown hgrow _
                    have HN4 : Hid (OpsNew w.heap.size w4 v' (acc ++ [⟨ok, oa, ob, ox, ov⟩])) := by
                      show World.ownsRow _ _ _ _ _ _ _
                      rw [List.length_append, ← opsC_snoc]
                      exact hown
                    obtain ⟨p4, c4, rfl⟩ := ownsRow_slice HN4.out
                    have c6 : Hid (Below w.heap.size w w4) := Lib.hid ((c3.out.alloc c3.out.size _).grown hgrow (by have := c3.out.size; simp; omega) (fun k hk => (World.ownsRow.lt HN3.out k hk).1))
                    clear hown hgrow k0 k1 k2 k3 k4 HN3 c3 HO3
                    go_wp2_with fail
                    go_roundw
                    case rel => exact ⟨i + 1, at' + 1, i + 1, acc ++ [⟨ok, oa, ob, ox, ov⟩], by go_num, by go_num, by go_num, by omega, HNX, HN4, c6⟩
                    case measure => simp [intOf]; omega
                  · have hf := HR1.out
                    rw [rd_bad HSK.out HMN.out (by rw [HOE.out.2]; decide)] at hf
                    injection hf with h1 h2
                    injection h2 with h2 h3
                    subst h1 h2 h3
                    clear HR1 HR2
                    go_wp2_with fail
                    go_ret3
                    exact ⟨⟨_, rfl, OpsNew.nil _ _⟩, c3.out⟩
      · obtain rfl : i = s.size + 1 := by omega
        have e0 : decide (((s.size + 1 : Nat) : Int) ≤ (s.size : Int)) = false := by rw [decide_eq_false_iff_not]; omega
        have hst := hLS.out.stop (by rw [HL.out])
        injection hst with h1 h2
        injection h2 with h2 h3
        subst h1 h2 h3
        clear hi hle hLS
        go_wp2_with fail
        go_ret3
        exact ⟨⟨_, rfl, hN.out⟩, hB.out⟩
end Go.Proofs.YtlmbcclggaflaaaGreatDoor
namespace Go.Proofs.YtlmbcclggaflaaaGreatDoor
open Go Go.RowKit

theorem stands_own5 {W W' : World} {row : Option Nat} {D B base size : Nat} {e : TypeId} {v : Value} {n : Nat} {xs : List Value} (h : W.ownsRow base e size v n xs) (hb : B < base) (hg : W.grownBy W' row) (hr : ∀ r, row = some r → r = B ∨ (D ≤ r ∧ ∃ o : Obj, W.heap[r]? = some o ∧ o.isCells = false)) : W'.ownsRow base e size v n xs := by
  refine ⟨h.1, ?_⟩
  rcases h.2 with hn | ⟨g, cap, cur, hv, hgb, hh, rest⟩
  · exact .inl hn
  · refine .inr ⟨g, cap, cur, hv, hgb, ?_, rest⟩
    rw [hg.block g (Array.getElem?_eq_some_iff.1 hh).1 fun e => ?_]
    · exact hh
    · rcases hr _ e.symm with rfl | ⟨_, o', ho', hc'⟩
      · omega
      · rw [hh] at ho'
        cases ho'
        simp [Obj.isCells] at hc'
theorem appended_keeps5 {W w3 w4 : World} {base size : Nat} {e : TypeId} {v : Value} {k : Nat} {xs : List Value} {tmp : Obj} (b3 : Below W.heap.size W w3) (ho : w3.ownsRow base e size v k xs) (hgrow : (w3.alloc tmp).grownBy w4 v.ownBlock) : KeepsOthers W w4 := by
  refine ((keeps_below b3).trans (KeepsOthers.alloc w3 tmp)).trans (KeepsOthers.of_grownBy hgrow fun j o ej hj => ?_)
  rcases (ho.alloc tmp).2 with ⟨rfl, _⟩ | ⟨g, cap, cur, rfl, _, hgb, _⟩
  · simp [Value.ownBlock] at ej
  · obtain rfl : g = j := by simpa [Value.ownBlock] using ej
    rw [hgb] at hj
    cases hj
    rfl
theorem boxed_below {W W' : World} {B : Nat} {t : TypeId} {v : Value} (h : Boxed W B t v) (hb : Below W.heap.size W W') : Boxed W' B t v := (hb.block B h.lt).trans h
theorem boxed_off {W : World} {B C : Nat} {t : TypeId} {v : Value} (h : Boxed W B t v) (hn : B ≠ C) (j : Nat) (u : Value) : Boxed (W.setCell ⟨C, j, none⟩ u) B t v := (Below.heap_setCell W ⟨C, j, none⟩ u B hn).trans h
theorem boxed_stands {W W' : World} {row : Option Nat} {D B C : Nat} {t : TypeId} {v : Value} (h : Boxed W C t v) (hne : C ≠ B) (hg : W.grownBy W' row) (hr : ∀ r, row = some r → r = B ∨ (D ≤ r ∧ ∃ o : Obj, W.heap[r]? = some o ∧ o.isCells = false)) : Boxed W' C t v :=
  (stands_cell (a := ⟨C, 0, none⟩) h.cell hne hg hr).trans h
/-- The state of the loop ahead of line k. -/
def PAI (w : World) (b B : Nat) (L : List (List UInt8)) (F : List OpD × Int × Int) (k : Nat) (W : World) : Prop :=
  ∃ acc v, Boxed W (b + 3) 35 v ∧ W.ownsRow (B + 3) 28 5 v acc.length (acc.flatMap opC) ∧ Boxed W (b + 4) 3 (.int .i64 (k : Int)) ∧
    (Boxed W b 35 (.slice none 0 0) ∧ Boxed W (b + 1) 3 (.int .i64 0) ∧ Boxed W (b + 2) 31 (.int .i64 0)) ∧ Below b w W ∧ B + 3 ≤ W.heap.size ∧ acc.length ≤ 2000 ∧ rdL (L.drop k) k acc = F
/-- The loop was left: the results lie. -/
def PAX (w : World) (b : Nat) (F : List OpD × Int × Int) (c : Code) (W : World) : Prop :=
  c = .ret ∧ F.1 = [] ∧ (Boxed W b 35 (.slice none 0 0) ∧ Boxed W (b + 1) 3 (.int .i64 F.2.1) ∧ Boxed W (b + 2) 31 (.int .i64 F.2.2)) ∧ Below b w W
theorem PAI.stands (w : World) (b B D : Nat) (hb : b + 4 < B) (L : List (List UInt8)) (F : List OpD × Int × Int) (hD : B ≤ D) : ∀ k, Stands D B (PAI w b B L F k) := by
  rintro k W W' row ⟨acc, v, h1, h2, h3, ⟨h4, h5, h6⟩, h7, h8, h9, h10⟩ hg hr
  refine ⟨acc, v, boxed_stands h1 (by omega) hg hr, stands_own5 h2 (by omega) hg hr, boxed_stands h3 (by omega) hg hr, ⟨boxed_stands h4 (by omega) hg hr, boxed_stands h5 (by omega) hg hr, boxed_stands h6 (by omega) hg hr⟩, h7.grown hg ?_ fun j ej => ?_, Nat.le_trans h8 hg.size, h9, h10⟩
  · have := h4.lt
    omega
  · rcases hr _ ej with rfl | ⟨hD2, _⟩
    · omega
    · omega
theorem PAX.stands (w : World) (b B D : Nat) (hb : b + 4 < B) (F : List OpD × Int × Int) (hD : B ≤ D) : ∀ c, Stands D B (PAX w b F c) := by
  rintro c W W' row ⟨h1, h2, ⟨h4, h5, h6⟩, h7⟩ hg hr
  refine ⟨h1, h2, ⟨boxed_stands h4 (by omega) hg hr, boxed_stands h5 (by omega) hg hr, boxed_stands h6 (by omega) hg hr⟩, h7.grown hg ?_ fun j ej => ?_⟩
  · have := h4.lt
    omega
  · rcases hr _ ej with rfl | ⟨hD2, _⟩
    · omega
    · omega
theorem line_at {L : List (List UInt8)} {F : List OpD × Int × Int} {k : Nat} {acc : List OpD} (hk : k < L.length) (h : rdL (L.drop k) k acc = F) : rdL (L.getD k [] :: L.drop (k + 1)) k acc = F := by
  rw [← h, List.drop_eq_getElem_cons hk, List.getD, List.getElem?_eq_getElem hk]
  rfl
theorem keepsBox_set {B C : Nat} (W : World) (u : Value) (h : C < B) : KeepsBox B W (W.setCell ⟨C, 0, none⟩ u) := fun j h1 h2 => Below.heap_setCell W ⟨C, 0, none⟩ u j (by show j ≠ C; omega)
theorem own_setoff {W : World} {base size C : Nat} {e : TypeId} {v : Value} {n : Nat} {xs : List Value} (h : W.ownsRow base e size v n xs) (u : Value) (hC : C < base) : (W.setCell ⟨C, 0, none⟩ u).ownsRow base e size v n xs :=
  h.kept (grownBy_setCell' W C u) (Or.inr fun e2 => by have := (h.lt C e2).1; omega)
/-- A line that is passed by. -/
theorem PAI.pass {w W : World} {b B : Nat} (hb : b + 4 < B) {L : List (List UInt8)} {F : List OpD × Int × Int} {k : Nat} (h : PAI w b B L F k W) (hk : k < L.length) (hs : skipL (L.getD k []) = true) :
    KeepsOthers W (W.setCell ⟨b + 4, 0, none⟩ (.int .i64 ((k : Int) + 1))) ∧ KeepsBox B W (W.setCell ⟨b + 4, 0, none⟩ (.int .i64 ((k : Int) + 1))) ∧ PAI w b B L F (k + 1) (W.setCell ⟨b + 4, 0, none⟩ (.int .i64 ((k : Int) + 1))) := by
  obtain ⟨acc, v, h1, h2, h3, ⟨h4, h5, h6⟩, h7, h8, h9, h10⟩ := h
  refine ⟨KeepsOthers.setCell _ _ _, keepsBox_set W _ hb, acc, v, boxed_off h1 (by omega) 0 _, own_setoff h2 _ (by omega), ?_, ⟨boxed_off h4 (by omega) 0 _, boxed_off h5 (by omega) 0 _, boxed_off h6 (by omega) 0 _⟩, below_set h7 _ (by omega) 0 _, ?_, h9, ?_⟩
  · have := h3.set (.int .i64 ((k : Int) + 1))
    rw [show ((k + 1 : Nat) : Int) = (k : Int) + 1 by omega]
    exact this
  · exact Nat.le_trans h8 (grownBy_setCell' W (b + 4) _).size
  · have := line_at hk h10
    rw [rd_skip hs] at this
    exact this
end Go.Proofs.YtlmbcclggaflaaaGreatDoor
namespace Go.Proofs.YtlmbcclggaflaaaGreatDoor
open Go Go.RowKit Go.Shelf
attribute [local go_sem] Oper.semAt_some

theorem results_pa {fn : Func} {s t u : Tmp} (h : fn.results = #[.cell s 35, .cell t 3, .cell u 31]) (tmps : Array Value) (w : World) (b1 b2 b3 : Nat) (p : Option Addr) (k c : Nat) (n e : Int) (h1 : w.cell? ⟨b1, 0, none⟩ = some (.slice p k c)) (h2 : w.cell? ⟨b2, 0, none⟩ = some (.int .i64 n)) (h3 : w.cell? ⟨b3, 0, none⟩ = some (.int .i64 e))
    (hs : tmps.getD s undef = .pointer (some ⟨b1, 0, none⟩)) (ht : tmps.getD t undef = .pointer (some ⟨b2, 0, none⟩)) (hu : tmps.getD u undef = .pointer (some ⟨b3, 0, none⟩)) : (results fn tmps).run Tryz.prog w = .ok (.tuple #[.slice p k c, .int .i64 n, .int .i64 e]) w := by
  have hs' : tmps[s]?.getD undef = .pointer (some ⟨b1, 0, none⟩) := by simpa using hs
  have ht' : tmps[t]?.getD undef = .pointer (some ⟨b2, 0, none⟩) := by simpa using ht
  have hu' : tmps[u]?.getD undef = .pointer (some ⟨b3, 0, none⟩) := by simpa using hu
  simp [results, h, hs', ht', hu', asAddr]
  go_simp
  done
theorem own_below5 {w w' : World} {B e size : Nat} {v : Value} {n : Nat} {xs : List Value} (h : w.ownsRow B e size v n xs) (hb : Below w.heap.size w w') : w'.ownsRow B e size v n xs :=
  h.kept (below_grow hb none) (by cases v.ownBlock <;> simp)
theorem pa_end {W : World} {b D : Nat} {tmps : Array Value} {p : Option Addr} {k c : Nat} {n e : Int} (R : Ending → World → Prop) (ht2 : tmps.getD 2 undef = .pointer (some ⟨b, 0, none⟩)) (ht3 : tmps.getD 3 undef = .pointer (some ⟨b + 1, 0, none⟩)) (ht4 : tmps.getD 4 undef = .pointer (some ⟨b + 1 + 1, 0, none⟩))
    (h4 : Boxed W b 35 (.slice p k c)) (h5 : Boxed W (b + 1) 3 (.int .i64 n)) (h6 : Boxed W (b + 1 + 1) 31 (.int .i64 e)) (hk : W.heap[D]? = some (.deferred (some []))) (hD : b + 2 < D) (hR : ∀ o', R (.returned (.tuple #[.slice p k c, .int .i64 n, .int .i64 e])) (W.putObj D o')) :
    LeavesInM Fence.wide 0 Tryz.prog Tryz.f21 tmps R [{ target := .collected D, args := #[] }] .returning W := by
  refine ⟨by simp, Or.inl ⟨D, _, rfl, run_takeDeferred hk, ?_⟩⟩
  have hne : ∀ j, j < D → some j ≠ some D := fun j hj e2 => by injection e2 with e2; omega
  exact ⟨_, results_pa rfl tmps _ b (b + 1) (b + 1 + 1) p k c n e (h4.kept (grownBy_putObj' W D _) (hne _ (by omega))).cell (h5.kept (grownBy_putObj' W D _) (hne _ (by omega))).cell (h6.kept (grownBy_putObj' W D _) (hne _ (by omega))).cell ht2 ht3 ht4, hR _⟩
theorem put_end {w W Wy : World} {b B k : Nat} {F : List OpD × Int × Int} {I : Nat → World → Prop} {n e : Int} (a : Act) (hF : (([], n, e) : List OpD × Int × Int) = F) (hb : b + 4 < B) (hk : KeepsOthers W Wy) (h4 : Boxed Wy b 35 (.slice none 0 0)) (h5 : Boxed Wy (b + 1) 3 (.int .i64 0)) (h6 : Boxed Wy (b + 1 + 1) 31 (.int .i64 0)) (h7 : Below b w Wy) :
    boxPost I (PAX w b F) (fun _ _ => False) B k W .ret a (((Wy.drew.setCell ⟨b, 0, none⟩ (.slice none 0 0)).setCell ⟨b + 1, 0, none⟩ (.int .i64 n)).setCell ⟨b + 1 + 1, 0, none⟩ (.int .i64 e)) := by
  subst hF
  have g4 : Boxed Wy.drew b 35 (.slice none 0 0) := h4
  have g5 : Boxed Wy.drew (b + 1) 3 (.int .i64 0) := h5
  have g6 : Boxed Wy.drew (b + 1 + 1) 31 (.int .i64 0) := h6
  exact ⟨(((hk.trans (KeepsOthers.drew Wy)).trans (KeepsOthers.setCell _ _ _)).trans (KeepsOthers.setCell _ _ _)).trans (KeepsOthers.setCell _ _ _), rfl, rfl,
    ⟨boxed_off (boxed_off (g4.set _) (by omega) 0 _) (by omega) 0 _, boxed_off ((boxed_off g5 (by omega) 0 _).set _) (by omega) 0 _, (boxed_off (boxed_off g6 (by omega) 0 _) (by omega) 0 _).set _⟩,
    below_set (below_set (below_set h7.drew b (Nat.le_refl _) 0 _) (b + 1) (by omega) 0 _) (b + 1 + 1) (by omega) 0 _⟩
set_option maxRecDepth 100000 in
set_option maxHeartbeats 8000000 in
theorem parseAll_any (s : ByteArray) (hs : s.size ≤ 100000) (m : Int) (w : World) (he : Env m w) :
    Calls Tryz.prog 21 #[.string s] w fun e w' => (∃ v, e = .returned (.tuple #[v, .int .i64 (rdA s).2.1, .int .i64 (rdA s).2.2]) ∧ OpsNew w.heap.size w' v (rdA s).1) ∧ Below w.heap.size w w' := by
  have HE := Lib.hid he
  have HSZ := Lib.hid hs
  refine (callsIn_wide (n := 0)).1 ?_
  refine callsIn_of_wpAtP Tryz.func21 rfl trivial ?_ rfl
  simp only [Tryz.ntmps21, List.size_toArray, List.length_cons, List.length_nil, Nat.reduceAdd, Nat.reduceSub, Array.replicate_succ, Array.replicate_zero, List.push_toArray, List.append_toArray, List.nil_append, List.cons_append]
  by_cases hbig : 65536 < s.size
  · have d0 : decide (65536 < (s.size : Int)) = true := by rw [decide_eq_true_iff]; omega
    have HP := Lib.hid (rdA_long hbig)
    clear hbig hs he
    refine WpAt.seq trivial (WpAt.ofw ?_)
    go_wp2_with fail
    refine WpAt.seq trivial (WpAt.ofw ?_)
    go_wp2_with fail
    refine ⟨_, results_pa rfl _ _ w.heap.size (w.heap.size + 1) (w.heap.size + 1 + 1) none 0 0 0 9 ?_ ?_ ?_ rfl rfl rfl, ⟨_, by rw [HP.out], by rw [HP.out]; exact OpsNew.nil _ _⟩, below3 _ _ _ _⟩
    · exact cell_kept (new_cell (w := w) #[.slice none 0 0] 35 0 _ rfl) (below2 (w.alloc (.cells #[.slice none 0 0] 35)) _ _)
    · exact cell_kept (a := ⟨w.heap.size + 1, 0, none⟩) (by have h := new_cell (w := w.alloc (.cells #[.slice none 0 0] 35)) #[.int .i64 0] 3 0 _ rfl; rw [World.size_alloc] at h; exact h) ((Below.refl _ _).alloc (Nat.le_refl _) _)
    · have h := new_cell (w := (w.alloc (.cells #[.slice none 0 0] 35)).alloc (.cells #[.int .i64 0] 3)) #[.int .i64 9] 31 0 _ rfl
      rw [World.size_alloc, World.size_alloc] at h
      exact h
  · have d0 : decide (65536 < (s.size : Int)) = false := by rw [decide_eq_false_iff_not]; omega
    obtain ⟨F, hF⟩ : ∃ F, rdL (pc 10 s.data.toList) 0 [] = F := ⟨_, rfl⟩
    have hR : rdA s = F := by unfold rdA; rw [if_neg hbig]; exact hF
    rw [hR]
    have HF := Lib.hid hF
    clear hF hR hbig hs he
    refine WpAt.seq trivial (WpAt.ofw ?_)
    go_wp2_with fail
    refine WpAt.seq trivial (WpAt.ofw ?_)
    go_wp2_with fail
    refine WpAt.seq trivial (WpAt.ofw ?_)
    go_wp2_with fail
    refine WpAt.seq trivial (WpAt.ofw ?_)
    go_wp2_with fail
    refine WpAt.seq trivial ?_
    refine WpAt.seq trivial (WpAt.ofw ?_)
    go_wp2_with fail
    refine (splitSeq_any s 10 _).mono ?_
    simp only [World.size_alloc]
    rintro e w2 ⟨rfl, hbx, hsz, b1⟩
    have ha1 := (Below.refl w.heap.size w).alloc (Nat.le_refl _) (.cells #[.slice none 0 0] 35)
    have ha := (((ha1.alloc ha1.size (.cells #[.int .i64 0] 3)).alloc (by simp; omega) (.cells #[.int .i64 0] 31)).alloc (by simp; omega) (.cells #[.slice none 0 0] 35)).alloc (by simp; omega) (.cells #[.int .i64 0] 3)
    have q1 := Boxed.new w 35 (.slice none 0 0)
    have q2 := Boxed.new (w.alloc (.cells #[.slice none 0 0] 35)) 3 (.int .i64 0)
    have q3 := Boxed.new ((w.alloc (.cells #[.slice none 0 0] 35)).alloc (.cells #[.int .i64 0] 3)) 31 (.int .i64 0)
    have q4 := Boxed.new (((w.alloc (.cells #[.slice none 0 0] 35)).alloc (.cells #[.int .i64 0] 3)).alloc (.cells #[.int .i64 0] 31)) 35 (.slice none 0 0)
    have q5 := Boxed.new ((((w.alloc (.cells #[.slice none 0 0] 35)).alloc (.cells #[.int .i64 0] 3)).alloc (.cells #[.int .i64 0] 31)).alloc (.cells #[.slice none 0 0] 35)) 3 (.int .i64 0)
    replace q1 := (((q1.alloc (.cells #[.int .i64 0] 3)).alloc (.cells #[.int .i64 0] 31)).alloc (.cells #[.slice none 0 0] 35)).alloc (.cells #[.int .i64 0] 3)
    replace q2 := ((q2.alloc (.cells #[.int .i64 0] 31)).alloc (.cells #[.slice none 0 0] 35)).alloc (.cells #[.int .i64 0] 3)
    replace q3 := (q3.alloc (.cells #[.slice none 0 0] 35)).alloc (.cells #[.int .i64 0] 3)
    replace q4 := q4.alloc (.cells #[.int .i64 0] 3)
    simp only [World.size_alloc] at q2 q3 q4 q5
    have b1' := b1
    have hsz5 : (((((w.alloc (.cells #[.slice none 0 0] 35)).alloc (.cells #[.int .i64 0] 3)).alloc (.cells #[.int .i64 0] 31)).alloc (.cells #[.slice none 0 0] 35)).alloc (.cells #[.int .i64 0] 3)).heap.size = w.heap.size + 1 + 1 + 1 + 1 + 1 := by simp only [World.size_alloc]
    rw [← hsz5] at b1
    have c2 : Below w.heap.size w w2 := ha.trans (b1.mono (by rw [hsz5]; omega))
    replace q1 := boxed_below q1 b1
    replace q2 := boxed_below q2 b1
    replace q3 := boxed_below q3 b1
    replace q4 := boxed_below q4 b1
    replace q5 := boxed_below q5 b1
    clear b1 b1' ha ha1 hsz5
    obtain ⟨b, hb⟩ : ∃ b, w.heap.size = b := ⟨_, rfl⟩
    rw [hb] at q1 q2 q3 q4 q5 hbx hsz c2
    rw [hb]
    have HBE := Lib.hid hb
    clear hb
    obtain ⟨B, hB⟩ : ∃ B, b + 1 + 1 + 1 + 1 + 1 = B := ⟨_, rfl⟩
    rw [hB] at hbx hsz
    rw [hB]
    go_wp2_with fail
    refine WpAt.block (F := Fence.wide) trivial ?_
    refine wpAt_rangeBox (fnr := Tryz.f21) Tryz.func21 (gf := 114) (lb := #[.pointer (some ⟨B + 1, 0, none⟩), .pointer (some ⟨B, 0, none⟩), .pointer (some ⟨B + 2, 0, none⟩)]) ?hg (enters_of Tryz.func114 (by kernel_rfl) rfl)
      (xs := pcS 10 s) (B := B) (S0 := Boxes B 10 s) (seq_box 10 s (by have := HSZ.out; omega) B) (by omega) (fun o1 o2 => ?boxes) ?hps
      (PAI w b B (pc 10 s.data.toList) F) (PAX w b F) (fun _ _ => False) (PAI.stands w b B w2.heap.size (by omega) _ _ (by omega)) (PAX.stands w b B w2.heap.size (by omega) _ (by omega))
      ⟨[], .slice none 0 0, q4, World.ownsRow_nil _ _ _ _, q5, ⟨q1, q2, q3⟩, c2, by omega, by simp, by rw [List.drop_zero]; exact HF.out⟩
      (fun x => { tmps := #[.string s, undef, .pointer (some ⟨b, 0, none⟩), .pointer (some ⟨b + 1, 0, none⟩), .pointer (some ⟨b + 1 + 1, 0, none⟩), .pointer (some ⟨b + 1 + 1 + 1, 0, none⟩), .pointer (some ⟨b + 1 + 1 + 1 + 1, 0, none⟩), .string x, undef, undef, .string s, .int .i64 s.size, .bool false, .string s, .func (.func 114) #[] #[.pointer (some ⟨B + 1, 0, none⟩), .pointer (some ⟨B, 0, none⟩), .pointer (some ⟨B + 2, 0, none⟩)], .string x, undef, undef, undef, undef, undef, undef, undef, undef, undef, undef, undef, undef, undef, undef, undef, undef, undef, undef, undef, undef, undef, undef, undef, undef, undef, undef, undef], defers := [] }) ?assign ?body ?done ?stop ?panic
    case hg => rfl
    case hps => rfl
    case boxes =>
      obtain ⟨g1, g2, g3⟩ := hbx
      refine ⟨?_, ?_, ?_⟩
      · rw [Below.heap_alloc _ _ _ (by rw [World.size_alloc]; omega), Below.heap_alloc _ _ _ (by omega)]; exact g1
      · rw [Below.heap_alloc _ _ _ (by rw [World.size_alloc]; omega), Below.heap_alloc _ _ _ (by omega)]; exact g2
      · rw [Below.heap_alloc _ _ _ (by rw [World.size_alloc]; omega), Below.heap_alloc _ _ _ (by omega)]; exact g3
    case assign =>
      intro l x W K hK
      gi_wp2
      exact hK
    case body =>
      rintro l k W hI hk
      rw [pcS_len] at hk
      have hxl : ((pcS 10 s).getD k ⟨#[]⟩).data.toList = (pc 10 s.data.toList).getD k [] := by rw [pcS_getD, pack_data]
      have hxs : ((pcS 10 s).getD k ⟨#[]⟩).size ≤ 100000 := Nat.le_trans (pcS_size 10 s k) HSZ.out
      obtain ⟨X, hX⟩ : ∃ X, (pcS 10 s).getD k ⟨#[]⟩ = X := ⟨_, rfl⟩
      rw [hX] at hxl hxs ⊢
      have hkl : k ≤ 100001 := by
        have h1 := pc_len (d := 10) s.data.toList
        rw [str_len] at h1
        have := HSZ.out
        omega
      have hI2 := hI
      obtain ⟨acc, v, h1, h2, h3, ⟨h4, h5, h6⟩, h7, h8, h9, h10⟩ := hI
      have hsum : IntKind.i64.wrap ((k : Int) + 1) = (k : Int) + 1 := IntWalk.i64_in _ (by omega)
      obtain ⟨p, c, rfl⟩ := ownsRow_slice h2
      have k6 : W.cell? ⟨b + 1 + 1 + 1 + 1, 0, none⟩ = some (.int .i64 (k : Int)) := h3.cell
      have f6 : W.frozen? ⟨b + 1 + 1 + 1 + 1, 0, none⟩ = false := h3.frozen
      have HI := Lib.hid hI2
      have HXL := Lib.hid hxl
      have HXS := Lib.hid hxs
      obtain ⟨x, hx⟩ : ∃ x, X.data.toList = x := ⟨_, rfl⟩
      rw [hx] at hxl
      have HK := Lib.hid hk
      clear hX hI2 hxs hkl
      cases x with
      | nil =>
        have d1 : X.toList.isEmpty = true := isEmpty_true (by rw [← str_len, hx]; rfl)
        have HP := Lib.hid (PAI.pass (by omega) HI.out HK.out (by rw [← hxl]; rfl))
        clear h1 h2 h3 h4 h5 h6 h7 h8 h9 h10 hx hxl hk
        gi_wp2
        exact HP.out
      | cons y r =>
        have hlen : X.size = r.length + 1 := by rw [← str_len, hx]; rfl
        have d1 : X.toList.isEmpty = false := isEmpty_false (by omega)
        have hi0' := run_str_at (P := Tryz.prog) X 9 Tryz.underlying9 .i64 0 0 rfl (by omega) y (by rw [hx]; rfl)
        by_cases h35 : y = 35
        · have d2 : ((y.toNat : Int) == 35) = true := by rw [h35]; rfl
          have HP := Lib.hid (PAI.pass (by omega) HI.out HK.out (by rw [← hxl, skip_cons]; exact decide_eq_true h35))
          clear h1 h2 h3 h4 h5 h6 h7 h8 h9 h10 hx hxl hk hlen h35
          gi_wp2
          exact HP.out
        · have d2 : ((y.toNat : Int) == 35) = false := by
            rw [beq_eq_false_iff_ne]
            intro e
            exact h35 (UInt8.toNat_inj.mp (by show y.toNat = 35; omega))
          have hsk : skipL ((pc 10 s.data.toList).getD k []) = false := by rw [← hxl, skip_cons]; exact decide_eq_false h35
          have hr := line_at hk h10
          have w1 : Boxed (W.setCell ⟨b + 1 + 1 + 1 + 1, 0, none⟩ (.int .i64 ((k : Int) + 1))) (b + 1 + 1 + 1) 35 (.slice p acc.length c) := boxed_off h1 (by omega) 0 _
          have w3 : Boxed (W.setCell ⟨b + 1 + 1 + 1 + 1, 0, none⟩ (.int .i64 ((k : Int) + 1))) (b + 1 + 1 + 1 + 1) 3 (.int .i64 ((k : Int) + 1)) := h3.set _
          have w4 : Boxed (W.setCell ⟨b + 1 + 1 + 1 + 1, 0, none⟩ (.int .i64 ((k : Int) + 1))) b 35 (.slice none 0 0) := boxed_off h4 (by omega) 0 _
          have w5 : Boxed (W.setCell ⟨b + 1 + 1 + 1 + 1, 0, none⟩ (.int .i64 ((k : Int) + 1))) (b + 1) 3 (.int .i64 0) := boxed_off h5 (by omega) 0 _
          have w6 : Boxed (W.setCell ⟨b + 1 + 1 + 1 + 1, 0, none⟩ (.int .i64 ((k : Int) + 1))) (b + 1 + 1) 31 (.int .i64 0) := boxed_off h6 (by omega) 0 _
          have w2o : (W.setCell ⟨b + 1 + 1 + 1 + 1, 0, none⟩ (.int .i64 ((k : Int) + 1))).ownsRow (B + 3) 28 5 (.slice p acc.length c) acc.length (acc.flatMap opC) := own_setoff h2 _ (by omega)
          have w7 : Below b w (W.setCell ⟨b + 1 + 1 + 1 + 1, 0, none⟩ (.int .i64 ((k : Int) + 1))) := below_set h7 _ (by omega) 0 _
          have w8 : KeepsOthers W (W.setCell ⟨b + 1 + 1 + 1 + 1, 0, none⟩ (.int .i64 ((k : Int) + 1))) := KeepsOthers.setCell _ _ _
          have w9 : KeepsBox B W (W.setCell ⟨b + 1 + 1 + 1 + 1, 0, none⟩ (.int .i64 ((k : Int) + 1))) := keepsBox_set W _ (by omega)
          have w10 : B + 3 ≤ (W.setCell ⟨b + 1 + 1 + 1 + 1, 0, none⟩ (.int .i64 ((k : Int) + 1))).heap.size := Nat.le_trans h8 (grownBy_setCell' W _ _).size
          have W1 := Lib.hid w1
          have W3 := Lib.hid w3
          have W4 := Lib.hid w4
          have W5 := Lib.hid w5
          have W6 := Lib.hid w6
          have W2 := Lib.hid w2o
          have W7 := Lib.hid w7
          have W8 := Lib.hid w8
          have W9 := Lib.hid w9
          have W10 := Lib.hid w10
          have HR := Lib.hid hr
          have HSK := Lib.hid hsk
          have HAC := Lib.hid h9
          have k5 := w1.cell
          clear w1 w3 w4 w5 w6 w2o w7 w8 w9 w10 h1 h2 h3 h4 h5 h6 h7 h8 h9 h10 hx hlen h35 hsk hr hk
          by_cases hmany : acc.length = 2000
          · have d3 : ((acc.length : Int) == 2000) = true := by rw [beq_iff_eq]; omega
            have hf := HR.out
            rw [rd_many HSK.out hmany] at hf
            have HF2 := Lib.hid hf
            clear hf hmany
            gi_wp2
            generalize (W.setCell ⟨b + 1 + 1 + 1 + 1, 0, none⟩ (.int .i64 ((k : Int) + 1))) = Wx at *
            clear k5 k6 f6
            have k6 : Wx.drew.cell? ⟨b + 1 + 1 + 1 + 1, 0, none⟩ = some (.int .i64 ((k : Int) + 1)) := W3.out.cell
            have k2 : Wx.drew.cell? ⟨b, 0, none⟩ = some (.slice none 0 0) := W4.out.cell
            have k3 : Wx.drew.cell? ⟨b + 1, 0, none⟩ = some (.int .i64 0) := W5.out.cell
            have k4 : Wx.drew.cell? ⟨b + 1 + 1, 0, none⟩ = some (.int .i64 0) := W6.out.cell
            have f2 : Wx.drew.frozen? ⟨b, 0, none⟩ = false := W4.out.frozen
            have f3 : Wx.drew.frozen? ⟨b + 1, 0, none⟩ = false := W5.out.frozen
            have f4 : Wx.drew.frozen? ⟨b + 1 + 1, 0, none⟩ = false := W6.out.frozen
            have g3 : Boxed Wx.drew (b + 1 + 1 + 1 + 1) 3 (.int .i64 ((k : Int) + 1)) := W3.out
            have g4 : Boxed Wx.drew b 35 (.slice none 0 0) := W4.out
            have g5 : Boxed Wx.drew (b + 1) 3 (.int .i64 0) := W5.out
            have g6 : Boxed Wx.drew (b + 1 + 1) 31 (.int .i64 0) := W6.out
            have m6 : (Wx.setCell ⟨b, 0, none⟩ (.slice none 0 0)).drew.cell? ⟨b + 1 + 1 + 1 + 1, 0, none⟩ = some (.int .i64 ((k : Int) + 1)) := (boxed_off g3 (C := b) (by omega) 0 (.slice none 0 0)).cell
            have m3 : (Wx.setCell ⟨b, 0, none⟩ (.slice none 0 0)).drew.cell? ⟨b + 1, 0, none⟩ = some (.int .i64 0) := (boxed_off g5 (C := b) (by omega) 0 (.slice none 0 0)).cell
            have m4 : ((Wx.setCell ⟨b, 0, none⟩ (.slice none 0 0)).setCell ⟨b + 1, 0, none⟩ (.int .i64 ((k : Int) + 1))).drew.cell? ⟨b + 1 + 1, 0, none⟩ = some (.int .i64 0) := (boxed_off (boxed_off g6 (C := b) (by omega) 0 (.slice none 0 0)) (C := b + 1) (by omega) 0 (.int .i64 ((k : Int) + 1))).cell
            have n3 : (Wx.setCell ⟨b, 0, none⟩ (.slice none 0 0)).drew.frozen? ⟨b + 1, 0, none⟩ = false := (boxed_off g5 (C := b) (by omega) 0 (.slice none 0 0)).frozen
            have n4 : ((Wx.setCell ⟨b, 0, none⟩ (.slice none 0 0)).setCell ⟨b + 1, 0, none⟩ (.int .i64 ((k : Int) + 1))).drew.frozen? ⟨b + 1 + 1, 0, none⟩ = false := (boxed_off (boxed_off g6 (C := b) (by omega) 0 (.slice none 0 0)) (C := b + 1) (by omega) 0 (.int .i64 ((k : Int) + 1))).frozen
            have hmix : Tryz.prog.follows .mixedOrders = true := by kernel_rfl
            clear g3 g4 g5 g6
            gi_region_with_o (fail)
            all_goals
              gi_wp2
              exact put_end _ HF2.out (by omega) W8.out W4.out W5.out W6.out W7.out
          · have d3 : ((acc.length : Int) == 2000) = false := by rw [beq_eq_false_iff_ne]; omega
            have HMN := Lib.hid hmany
            clear hmany
            have hpr := parse39_any X HXS.out m _ (HE.out.below (by rw [HBE.out]; exact W7.out))
            obtain ⟨o, ho⟩ : ∃ o, opP X.data.toList = o := ⟨_, rfl⟩
            obtain ⟨E, hE⟩ : ∃ E, opPE X.data.toList = E := ⟨_, rfl⟩
            rw [ho, hE] at hpr
            have hpc := pe_cases X.data.toList
            rw [hE] at hpc
            obtain ⟨ok, oa, ob, ox, ov⟩ := o
            have hpr2 : Calls Tryz.prog 28 #[.string X] (W.setCell ⟨b + 1 + 1 + 1 + 1, 0, none⟩ (.int .i64 ((k : Int) + 1))) fun e w' => e = .returned (.tuple #[opA ok oa ob ox ov, .int .i64 E]) ∧ Below (W.setCell ⟨b + 1 + 1 + 1 + 1, 0, none⟩ (.int .i64 ((k : Int) + 1))).heap.size (W.setCell ⟨b + 1 + 1 + 1 + 1, 0, none⟩ (.int .i64 ((k : Int) + 1))) w' := hpr
            have HPR := Lib.hid hpr2
            rw [HXL.out] at ho hE
            have HOE := Lib.hid (And.intro ho hE)
            clear hpr hpr2 ho hE
            gi_wp2
            refine ⟨trivial, rfl, (CallsIn.inRound l (callsIn_wide.2 HPR.out)).mono ?_⟩
            generalize (W.setCell ⟨b + 1 + 1 + 1 + 1, 0, none⟩ (.int .i64 ((k : Int) + 1))) = Wx at *
            rintro e w2' ⟨rfl, b2⟩
            have a3 := (Below.refl w2'.heap.size w2').alloc (Nat.le_refl _) (.cells #[.int .i64 ok, .int .i64 oa, .int .i64 ob, .string ox, .string ov] 28)
            have cA : Below Wx.heap.size Wx (w2'.alloc (.cells #[.int .i64 ok, .int .i64 oa, .int .i64 ob, .string ox, .string ov] 28)) := b2.trans (a3.mono b2.size)
            have HO3 := Lib.hid (OpBox.new w2' ok oa ob ox ov 28)
            have X1 := Lib.hid (boxed_below W1.out cA)
            have X2 := Lib.hid (own_below5 W2.out cA)
            have X3 := Lib.hid (boxed_below W3.out cA)
            have X4 := Lib.hid (boxed_below W4.out cA)
            have X5 := Lib.hid (boxed_below W5.out cA)
            have X6 := Lib.hid (boxed_below W6.out cA)
            have X7 := Lib.hid (W7.out.trans (cA.mono (by have := W4.out.lt; omega)))
            have X8 := Lib.hid (W8.out.trans (keeps_below cA))
            have X9 := Lib.hid (W9.out.trans (fun j h1 h2 => cA.block j (by have := W10.out; omega)))
            have X10 : Hid (B + 3 ≤ (w2'.alloc (.cells #[.int .i64 ok, .int .i64 oa, .int .i64 ob, .string ox, .string ov] 28)).heap.size) := Nat.le_trans W10.out cA.size
            clear k5 k6 f6 a3 b2 cA W1 W2 W3 W4 W5 W6 W7 W8 W9 W10 HPR
            rcases hpc with rfl | rfl
            · have k5 := X1.out.cell
              have f5 := X1.out.frozen
              obtain ⟨i0, hi0, hz0, hz1, hz2⟩ := info_parts infoOp
              have HNX := HR.out
              rw [rd_good HSK.out HMN.out HOE.out.2, HOE.out.1] at HNX
              have HNX2 := Lib.hid HNX
              have hn5 := new5 (w2'.alloc (.cells #[.int .i64 ok, .int .i64 oa, .int .i64 ob, .string ox, .string ov] 28)) ⟨ok, oa, ob, ox, ov⟩ 28
              rw [World.size_alloc] at hn5
              have HN5 := Lib.hid hn5
              obtain ⟨⟨z0, z1, z2, z3, z4⟩, zf⟩ := HO3.out
              clear HNX hn5 zf HR
              gi_wp2_with (gi_at_builtin; refine wpListIn_append_own _ rfl (.tmp 38) (.tmp 40) 35 rfl (B + 3) 28 i0 (.agg #[.int .i64 0, .int .i64 0, .int .i64 0, .string ⟨#[]⟩, .string ⟨#[]⟩]) 5 56 Tryz.underlying35 hi0 hz0 hz1 hz2 rfl (by decide) _ _ _ rfl (X2.out.alloc _) ⟨w2'.heap.size + 1, 0, none⟩ 1 1 (opC ⟨ok, oa, ob, ox, ov⟩) rfl rfl HN5.out (fun q hq => by simp [opC] at hq; rcases hq with rfl | rfl | rfl | rfl | rfl <;> rfl) (by have := HAC.out; unfold maxLen; omega) (by have := HAC.out; omega) (by have := X10.out; rw [World.size_alloc]; omega) ?_)
              intro v' w4 hown hgrow _
              obtain ⟨g4, cap4, rfl⟩ := ownsRow_succ hown
              have hne : ∀ j, j < B + 3 → some j ≠ (Value.slice p acc.length c).ownBlock := fun j hj e => by have := (World.ownsRow.lt X2.out j e.symm).1; omega
              have Y1 := (X1.out.alloc (.cells #[.int .i64 ok, .int .i64 oa, .int .i64 ob, .string ox, .string ov] 28)).kept hgrow (hne _ (by omega))
              have Y3 := (X3.out.alloc (.cells #[.int .i64 ok, .int .i64 oa, .int .i64 ob, .string ox, .string ov] 28)).kept hgrow (hne _ (by omega))
              have Y4 := (X4.out.alloc (.cells #[.int .i64 ok, .int .i64 oa, .int .i64 ob, .string ox, .string ov] 28)).kept hgrow (hne _ (by omega))
              have Y5 := (X5.out.alloc (.cells #[.int .i64 ok, .int .i64 oa, .int .i64 ob, .string ox, .string ov] 28)).kept hgrow (hne _ (by omega))
              have Y6 := (X6.out.alloc (.cells #[.int .i64 ok, .int .i64 oa, .int .i64 ob, .string ox, .string ov] 28)).kept hgrow (hne _ (by omega))
              have k5' := Y1.cell
              have f5' := Y1.frozen
              have Y7 : Below b w w4 := (X7.out.alloc (by have := X4.out.lt; omega) _).grown hgrow (by have h := X4.out.lt; simp only [World.size_alloc] at h ⊢; omega) (fun j ej => by have := (World.ownsRow.lt X2.out j ej).1; omega)
              have Y8 : KeepsOthers W w4 := X8.out.trans (appended_keeps5 (Below.refl _ _) X2.out hgrow)
              have Y9 : KeepsBox B W w4 := X9.out.trans (fun j h1 h2 => (hgrow.block j (by have h := X10.out; simp only [World.size_alloc] at h ⊢; omega) (hne j (by omega))).trans (Below.heap_alloc _ _ _ (by have := X10.out; omega)))
              have Y10 : B + 3 ≤ w4.heap.size := Nat.le_trans X10.out (Nat.le_trans (by simp only [World.size_alloc]; omega) hgrow.size)
              have HOwn := Lib.hid hown
              have HY := Lib.hid (And.intro Y1 (And.intro Y3 (And.intro Y4 (And.intro Y5 (And.intro Y6 (And.intro Y7 (And.intro Y8 (And.intro Y9 Y10))))))))
              clear Y1 Y3 Y4 Y5 Y6 Y7 Y8 Y9 Y10 hown hgrow hne X1 X2 X3 X4 X5 X6 X7 X8 X9 X10 z0 z1 z2 z3 z4 HO3 HN5 k5 f5
              gi_wp2
              obtain ⟨Y1, Y3, Y4, Y5, Y6, Y7, Y8, Y9, Y10⟩ := HY.out
              refine ⟨Y8.trans (KeepsOthers.setCell _ _ _), Y9.trans (keepsBox_set w4 _ (by omega)), acc ++ [⟨ok, oa, ob, ox, ov⟩], _, Y1.set _, ?_, ?_, ⟨boxed_off Y4 (by omega) 0 _, boxed_off Y5 (by omega) 0 _, boxed_off Y6 (by omega) 0 _⟩, below_set Y7 _ (by omega) 0 _, Nat.le_trans Y10 (grownBy_setCell' w4 _ _).size, ?_, HNX2.out⟩
              · rw [List.length_append, ← opsC_snoc]
                exact own_setoff HOwn.out _ (by omega)
              · have h := boxed_off Y3 (C := b + 1 + 1 + 1) (by omega) 0 (.slice (some ⟨g4, 0, none⟩) (acc.length + 1) cap4)
                rw [show ((k + 1 : Nat) : Int) = (k : Int) + 1 by omega]
                exact h
              · have h1 := HMN.out
                have h2 := HAC.out
                rw [List.length_append, List.length_singleton]
                omega
            · have hf := HR.out
              rw [rd_bad HSK.out HMN.out (by rw [HOE.out.2]; decide)] at hf
              have HF2 := Lib.hid hf
              clear hf
              gi_wp2
              generalize (w2'.alloc (.cells #[.int .i64 ok, .int .i64 oa, .int .i64 ob, .string ox, .string ov] 28)) = Wy at *
              have k6 : Wy.drew.cell? ⟨b + 1 + 1 + 1 + 1, 0, none⟩ = some (.int .i64 ((k : Int) + 1)) := X3.out.cell
              have k2 : Wy.drew.cell? ⟨b, 0, none⟩ = some (.slice none 0 0) := X4.out.cell
              have k3 : Wy.drew.cell? ⟨b + 1, 0, none⟩ = some (.int .i64 0) := X5.out.cell
              have k4 : Wy.drew.cell? ⟨b + 1 + 1, 0, none⟩ = some (.int .i64 0) := X6.out.cell
              have f2 : Wy.drew.frozen? ⟨b, 0, none⟩ = false := X4.out.frozen
              have f3 : Wy.drew.frozen? ⟨b + 1, 0, none⟩ = false := X5.out.frozen
              have f4 : Wy.drew.frozen? ⟨b + 1 + 1, 0, none⟩ = false := X6.out.frozen
              have g3 : Boxed Wy.drew (b + 1 + 1 + 1 + 1) 3 (.int .i64 ((k : Int) + 1)) := X3.out
              have g4 : Boxed Wy.drew b 35 (.slice none 0 0) := X4.out
              have g5 : Boxed Wy.drew (b + 1) 3 (.int .i64 0) := X5.out
              have g6 : Boxed Wy.drew (b + 1 + 1) 31 (.int .i64 0) := X6.out
              have m6 : (Wy.setCell ⟨b, 0, none⟩ (.slice none 0 0)).drew.cell? ⟨b + 1 + 1 + 1 + 1, 0, none⟩ = some (.int .i64 ((k : Int) + 1)) := (boxed_off g3 (C := b) (by omega) 0 (.slice none 0 0)).cell
              have m3 : (Wy.setCell ⟨b, 0, none⟩ (.slice none 0 0)).drew.cell? ⟨b + 1, 0, none⟩ = some (.int .i64 0) := (boxed_off g5 (C := b) (by omega) 0 (.slice none 0 0)).cell
              have m4 : ((Wy.setCell ⟨b, 0, none⟩ (.slice none 0 0)).setCell ⟨b + 1, 0, none⟩ (.int .i64 ((k : Int) + 1))).drew.cell? ⟨b + 1 + 1, 0, none⟩ = some (.int .i64 0) := (boxed_off (boxed_off g6 (C := b) (by omega) 0 (.slice none 0 0)) (C := b + 1) (by omega) 0 (.int .i64 ((k : Int) + 1))).cell
              have n3 : (Wy.setCell ⟨b, 0, none⟩ (.slice none 0 0)).drew.frozen? ⟨b + 1, 0, none⟩ = false := (boxed_off g5 (C := b) (by omega) 0 (.slice none 0 0)).frozen
              have n4 : ((Wy.setCell ⟨b, 0, none⟩ (.slice none 0 0)).setCell ⟨b + 1, 0, none⟩ (.int .i64 ((k : Int) + 1))).drew.frozen? ⟨b + 1 + 1, 0, none⟩ = false := (boxed_off (boxed_off g6 (C := b) (by omega) 0 (.slice none 0 0)) (C := b + 1) (by omega) 0 (.int .i64 ((k : Int) + 1))).frozen
              have hmix : Tryz.prog.follows .mixedOrders = true := by kernel_rfl
              clear g3 g4 g5 g6
              gi_region_with_o (fail)
              all_goals
                gi_wp2
                exact put_end _ HF2.out (by omega) X8.out X4.out X5.out X6.out X7.out
    case done =>
      rintro D W hD ⟨acc, v, h1, h2, h3, ⟨h4, h5, h6⟩, h7, h8, h9, h10⟩ hk
      obtain ⟨p, c, rfl⟩ := ownsRow_slice h2
      rw [pcS_len, List.drop_eq_nil_of_le (Nat.le_refl _), rd_nil] at h10
      subst h10
      have k1 : W.cell? ⟨b + 1 + 1 + 1, 0, none⟩ = some (.slice p acc.length c) := h1.cell
      have k2 := h4.cell
      have k3 := h5.cell
      have k4 := h6.cell
      have f2 := h4.frozen
      have f3 := h5.frozen
      have f4 := h6.frozen
      refine WpAt.ofw ?_
      go_wp2_with fail
      refine pa_end _ rfl rfl rfl (boxed_off (boxed_off (h4.set _) (by omega) 0 _) (by omega) 0 _) (boxed_off ((boxed_off h5 (by omega) 0 _).set _) (by omega) 0 _) ((boxed_off (boxed_off h6 (by omega) 0 _) (by omega) 0 _).set _) ?_ (by omega) fun o' => ⟨⟨_, rfl, OpsNew.base (C := B + 3) (ownsRow_putObj (o := .deferred (some [])) (own_setoff (own_setoff (own_setoff h2 _ (by omega)) _ (by omega)) _ (by omega)) o' ?_ rfl) (by have := HBE.out; omega)⟩, ?_⟩
      · rw [Below.heap_setCell _ _ _ D (by show D ≠ b + 1 + 1; omega), Below.heap_setCell _ _ _ D (by show D ≠ b + 1; omega), Below.heap_setCell _ _ _ D (by show D ≠ b; omega)]
        exact hk
      · rw [Below.heap_setCell _ _ _ D (by show D ≠ b + 1 + 1; omega), Below.heap_setCell _ _ _ D (by show D ≠ b + 1; omega), Below.heap_setCell _ _ _ D (by show D ≠ b; omega)]
        exact hk
      · rw [HBE.out]
        have hlt := h4.lt
        have c5 := below_set (below_set (below_set h7 b (Nat.le_refl _) 0 (.slice p acc.length c)) (b + 1) (by omega) 0 (.int .i64 0)) (b + 1 + 1) (by omega) 0 (.int .i64 0)
        exact c5.grown (grownBy_putObj' _ D o') (by have h1 := h8; have e1 := (grownBy_setCell' (((W.setCell ⟨b, 0, none⟩ (.slice p acc.length c)).setCell ⟨b + 1, 0, none⟩ (.int .i64 0))) (b + 1 + 1) (.int .i64 0)).size; have e2 := (grownBy_setCell' ((W.setCell ⟨b, 0, none⟩ (.slice p acc.length c))) (b + 1) (.int .i64 0)).size; have e3 := (grownBy_setCell' W b (.slice p acc.length c)).size; omega) fun j ej => by cases ej; omega
    case stop =>
      rintro D c W hD ⟨rfl, hF1, ⟨h4, h5, h6⟩, h7⟩ hk
      refine wpIn_wide.2 ?_
      go_wp2_with fail
      refine pa_end _ rfl rfl rfl h4 h5 h6 hk (by omega) fun o' => ⟨⟨_, rfl, by rw [hF1]; exact OpsNew.nil _ _⟩, ?_⟩
      rw [HBE.out]
      have hlt := h4.lt
      exact h7.grown (grownBy_putObj' _ D o') (by omega) fun j ej => by cases ej; omega
    case panic => exact fun _ _ _ _ h _ => h.elim
end Go.Proofs.YtlmbcclggaflaaaGreatDoor
