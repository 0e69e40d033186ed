/-
  OpBack: the walk.
  OpBack: for every input the law returns true, and each argument reads behind the call as before it: the statement and its card.
  Conditions: none.
-/
import Derived.Test.YtlmbcclggaflaaaGreatDoorBuG
import Derived.Test.YtlmbcclggaflaaaGreatDoorBuE
import Derived.Test.YtlmbcclggaflaaaGreatDoorBuF
import Derived.Test.YtlmbcclggaflaaaGreatDoorBuH
set_option linter.unusedVariables false
namespace Go.Proofs.YtlmbcclggaflaaaGreatDoor
open Go Go.RowKit

theorem set5_num {w : World} {B C : Nat} {K Y Q T : Nat} {u : Value} (h : NumBox w B K Y Q T u) (hne : B ≠ C) (v0 v1 v2 v3 v4 : Value) : NumBox (set5 w C v0 v1 v2 v3 v4) B K Y Q T u := h.block (set5_block w hne v0 v1 v2 v3 v4)
theorem set5_box {w : World} {B C : Nat} {k a b : Int} {x v : ByteArray} (h : OpBox w B k a b x v) (hne : B ≠ C) (v0 v1 v2 v3 v4 : Value) : OpBox (set5 w C v0 v1 v2 v3 v4) B k a b x v := h.block (set5_block w hne v0 v1 v2 v3 v4)
theorem toList_data (s : ByteArray) : s.toList = s.data.toList := by rw [ByteArray.toList_eq]
theorem contains_no (s : ByteArray) (h : (10 : UInt8) ∉ s.data.toList) (w : World) :
    Calls Tryz.prog 45 #[.string s, .string ⟨#[10]⟩] w fun e w' => e = .returned (.bool false) ∧ w' = w := by
  have e : decide (0 ≤ Lib.indexByte s.data.toList 10) = false := by
    rw [decide_eq_false_iff_not]
    intro h0
    obtain ⟨o, ho⟩ : ∃ o : Nat, Lib.indexByte s.data.toList 10 = (o : Int) := ⟨(Lib.indexByte s.data.toList 10).toNat, by omega⟩
    exact h (List.mem_of_getElem? (Lib.indexByte_some ho).1)
  have hc := Tryz.strings_Contains_one s 10 w
  rw [e] at hc
  exact hc
theorem word_pre (s : ByteArray) (o : OpD) (h : s.data.toList = opT o) (w : World) :
    Calls Tryz.prog 47 #[.string s, .string (pack (wordL o.kind))] w fun e w' => e = .returned (.bool true) ∧ w' = w := by
  have hc := Tryz.strings_HasPrefix s (pack (wordL o.kind)) w
  have e : Lib.hasPrefix s.data.toList (pack (wordL o.kind)).data.toList = true := by
    rw [pack_data, h]
    unfold opT Lib.hasPrefix
    rw [List.isPrefixOf_iff_prefix]
    exact List.prefix_append _ _
  rw [e] at hc
  exact hc
theorem good_fit {o : OpD} (h : opGood o) (hs : (opT o).length ≤ 300) : opFit o := by
  have e0 : eB.size = 0 := rfl
  rcases h with ⟨h1, h2, h3, h4, h5⟩ | ⟨h1, h2, h3, h4, h5⟩ | ⟨h1, h2, h3, h4, h5⟩ | ⟨h1, h2, h3, h4, h5⟩ | ⟨h1, h2, h3, L, h4, h5⟩
  · have hk := key_len h4
    rw [Array.length_toList] at hk
    exact ⟨by omega, Nat.le_trans hk (by decide), by omega⟩
  · have hk := key_len h4
    rw [Array.length_toList] at hk
    exact ⟨by omega, Nat.le_trans hk (by decide), by rw [h5, e0]; omega⟩
  · exact ⟨by omega, by rw [h4, e0]; omega, by rw [h5, e0]; omega⟩
  · exact ⟨by omega, by rw [h4, e0]; omega, by rw [h5, e0]; omega⟩
  · have hp := planOK_parts h4
    have hl := keepT_len L 34 (fun k hk => by have := hp.2.2.2.2 k hk; omega) hp.2.2.2.1
    rw [← h5, Array.length_toList] at hl
    exact ⟨by omega, by rw [h3, e0]; omega, Nat.le_trans hl (by decide)⟩
set_option maxRecDepth 100000 in
set_option maxHeartbeats 20000000 in
theorem back_top (K Y Q T : Nat) (u : Value) (l : List UInt8) (hn : numOK K Y Q T) (K' Y' Q' T' : Nat) (u' : Value) (l' : List UInt8) (hn' : numOK K' Y' Q' T') (s : ByteArray) (m : Int) (w : World) (hu : BytesAt w u l) (hu' : BytesAt w u' l') (he : Env m w)
    (k a b : Int) (x v : ByteArray) (ho : madeO K Y Q T l = ⟨k, a, b, x, v⟩) (k' a' b' : Int) (x' v' : ByteArray) (ho' : madeO K' Y' Q' T' l' = ⟨k', a', b', x', v'⟩) (hg : opGood ⟨k, a, b, x, v⟩) (hf : opFit ⟨k, a, b, x, v⟩) (hg' : opGood ⟨k', a', b', x', v'⟩) (hf' : opFit ⟨k', a', b', x', v'⟩) :
    Calls Tryz.prog 10 #[numV K Y Q T u, numV K' Y' Q' T' u', .string s] w fun e w' => e = .returned (.bool true) ∧ Below w.heap.size w w' := by
  have HE := Lib.hid he
  have HN := Lib.hid hn
  have HN' := Lib.hid hn'
  have HO := Lib.hid ho
  have HO' := Lib.hid ho'
  have hb := (NumBox.new w K Y Q T u 25).below ((Below.refl _ _).alloc (Nat.le_refl _) (.cells #[.int .u8 K', .int .u8 Y', .int .u8 Q', .int .u32 T', u'] 25))
  have hb' := NumBox.new (w.alloc (.cells #[.int .u8 K, .int .u8 Y, .int .u8 Q, .int .u32 T, u] 25)) K' Y' Q' T' u' 25
  rw [World.size_alloc] at hb'
  have c1 := Lib.hid (below2 w (.cells #[.int .u8 K, .int .u8 Y, .int .u8 Q, .int .u32 T, u] 25) (.cells #[.int .u8 K', .int .u8 Y', .int .u8 Q', .int .u32 T', u'] 25))
  have HU := Lib.hid (hu.below c1.out)
  have HU' := Lib.hid (hu'.below c1.out)
  clear he hn hn' ho ho' hu hu'
  go_enter Tryz.func10, Tryz.ntmps10
  go_upto_region 1 with fail
  generalize ((w.alloc (.cells #[.int .u8 K, .int .u8 Y, .int .u8 Q, .int .u32 T, u] 25)).alloc (.cells #[.int .u8 K', .int .u8 Y', .int .u8 Q', .int .u32 T', u'] 25)) = w0 at *
  go_cut [7, 8] from 19 to 23 (fun t7 t8 wx => ∃ C D, t7 = .pointer (some ⟨C, 0, none⟩) ∧ t8 = .pointer (some ⟨D, 0, none⟩) ∧ Hid (OpBox wx C k a b x v) ∧ Hid (OpBox wx D k' a' b' x' v') ∧ Hid (Below w.heap.size w wx))
  case first =>
    have HNB : Hid (NumBox w0.drew w.heap.size K Y Q T u ∧ NumBox w0.drew (w.heap.size + 1) K' Y' Q' T' u') := ⟨hb, hb'⟩
    have HCW : Hid (Below w0.heap.size w0 w0.drew) := (Below.refl _ _).drew
    clear hb hb'
    refine wp_region_noPanic ?_
    refine wp_region_held_drew (S := fun w' => NumBox w' w.heap.size K Y Q T u ∧ NumBox w' (w.heap.size + 1) K' Y' Q' T' u') (by kernel_rfl) HNB.out (fun hHeld => ?_)
    refine wpAnyH_take (i := 0) (v := ?_) rfl (by kernel_rfl) (by kernel_rfl) (by kernel_rfl) (fun _ _ _ h => h) (Or.inl ⟨by rfl, ?_⟩) (by assumption) ?_
    rotate_left
    · intro w hSw
      obtain ⟨⟨s0, s1, s2, s3, s4⟩, ⟨t0, t1, t2, t3, t4⟩⟩ := hSw
      go_simp
      with_reducible rfl
    try simp only [List.getElem_toArray]
    try simp only [List.getElem_cons_succ]
    try simp only [List.getElem_cons_zero]
    try simp only [Act.put]
    try simp only [List.setIfInBounds_toArray]
    try simp only [List.set_cons_succ]
    try simp only [List.set_cons_zero]
    refine wpAnyH_take (i := 2) (v := ?_) rfl (by kernel_rfl) (by kernel_rfl) (by kernel_rfl) (fun _ _ _ h => h) (Or.inl ⟨by rfl, ?_⟩) (by assumption) ?_
    rotate_left
    · intro w hSw
      obtain ⟨⟨s0, s1, s2, s3, s4⟩, ⟨t0, t1, t2, t3, t4⟩⟩ := hSw
      go_simp
      with_reducible rfl
    try simp only [List.getElem_toArray]
    try simp only [List.getElem_cons_succ]
    try simp only [List.getElem_cons_zero]
    try simp only [Act.put]
    try simp only [List.setIfInBounds_toArray]
    try simp only [List.set_cons_succ]
    try simp only [List.set_cons_zero]
    generalize w0.drew = xw at *
    -- ORDERS
    refine wpAnyH_ready (rs := [1, 4, 5]) (by kernel_rfl) (by simp) ?_
    refine AllReadyH.cons rfl (fun KK hK => ?_) (AllReadyH.cons rfl (fun KK hK => ?_) (AllReadyH.cons rfl (fun KK hK => ?_) AllReadyH.nil))
    · go_simp
      refine (made_is K Y Q T HN.out u l _ (HU.out.below HCW.out) (HE.out.below (c1.out.trans (HCW.out.mono c1.out.size))).1 k a b x v HO.out).mono ?_
      rintro e x1 ⟨rfl, b1⟩
      replace HCW := Lib.hid (HCW.out.trans (b1.mono HCW.out.size))
      replace HNB := Lib.hid (And.intro (HNB.out.1.below b1) (HNB.out.2.below b1))
      refine hK.out _ _ HNB.out (fun hHeldx1 => ?_)
      clear hK KK b1 hHeld
      try simp only [List.getElem_toArray]
      try simp only [List.getElem_cons_succ]
      try simp only [List.getElem_cons_zero]
      try simp only [Act.put]
      try simp only [List.setIfInBounds_toArray]
      try simp only [List.set_cons_succ]
      try simp only [List.set_cons_zero]
      refine wpAnyH_ready (rs := [3, 4, 5]) (by kernel_rfl) (by simp) ?_
      refine AllReadyH.cons rfl (fun KK hK => ?_) (AllReadyH.cons rfl (fun KK hK => ?_) (AllReadyH.cons rfl (fun KK hK => ?_) AllReadyH.nil))
      · go_simp
        refine (made_is K' Y' Q' T' HN'.out u' l' _ (HU'.out.below HCW.out) (HE.out.below (c1.out.trans (HCW.out.mono c1.out.size))).1 k' a' b' x' v' HO'.out).mono ?_
        rintro e x2 ⟨rfl, b1⟩
        replace HCW := Lib.hid (HCW.out.trans (b1.mono HCW.out.size))
        replace HNB := Lib.hid (And.intro (HNB.out.1.below b1) (HNB.out.2.below b1))
        refine hK.out _ _ HNB.out (fun hHeldx2 => ?_)
        clear hK KK b1 hHeldx1
        try simp only [List.getElem_toArray]
        try simp only [List.getElem_cons_succ]
        try simp only [List.getElem_cons_zero]
        try simp only [Act.put]
        try simp only [List.setIfInBounds_toArray]
        try simp only [List.set_cons_succ]
        try simp only [List.set_cons_zero]
        refine wpAnyH_ready (rs := [4, 5]) (by kernel_rfl) (by simp) ?_
        refine AllReadyH.cons rfl (fun KK hK => ?_) (AllReadyH.cons rfl (fun KK hK => ?_) AllReadyH.nil)
        · go_simp
          have b1 := (Below.refl x2.heap.size x2).alloc (Nat.le_refl _) (.cells #[.int .i64 0, .int .i64 0, .int .i64 0, .string ⟨#[]⟩, .string ⟨#[]⟩] 28)
          have z4 := Lib.hid (OpBox.new x2 0 0 0 ⟨#[]⟩ ⟨#[]⟩ 28)
          have zl4 := Lib.hid (World.block_lt_of_cell? _ _ HNB.out.2.1)
          replace HCW := Lib.hid (HCW.out.trans (b1.mono HCW.out.size))
          replace HNB := Lib.hid (And.intro (HNB.out.1.below b1) (HNB.out.2.below b1))
          refine hK.out _ _ HNB.out (fun hHeldx3 => ?_)
          clear hK KK b1 hHeldx2
          try simp only [List.getElem_toArray]
          try simp only [List.getElem_cons_succ]
          try simp only [List.getElem_cons_zero]
          try simp only [Act.put]
          try simp only [List.setIfInBounds_toArray]
          try simp only [List.set_cons_succ]
          try simp only [List.set_cons_zero]
          generalize (x2.alloc (.cells #[.int .i64 0, .int .i64 0, .int .i64 0, .string ⟨#[]⟩, .string ⟨#[]⟩] 28)) = x3 at *
          obtain ⟨C4, hC⟩ : ∃ C4, x2.heap.size = C4 := ⟨_, rfl⟩
          rw [hC] at z4 zl4
          rw [hC]
          clear hC
          refine wpAnyH_ready (rs := [5]) (by kernel_rfl) (by simp) ?_
          refine AllReadyH.cons rfl (fun KK hK => ?_) AllReadyH.nil
          · go_simp
            have b1 := (Below.refl x3.heap.size x3).alloc (Nat.le_refl _) (.cells #[.int .i64 0, .int .i64 0, .int .i64 0, .string ⟨#[]⟩, .string ⟨#[]⟩] 28)
            have z5 := Lib.hid (OpBox.new x3 0 0 0 ⟨#[]⟩ ⟨#[]⟩ 28)
            have zl5 := Lib.hid (World.block_lt_of_cell? _ _ HNB.out.2.1)
            have zn := Lib.hid z4.out.lt
            replace HCW := Lib.hid (HCW.out.trans (b1.mono HCW.out.size))
            replace HNB := Lib.hid (And.intro (HNB.out.1.below b1) (HNB.out.2.below b1))
            replace z4 := Lib.hid (z4.out.below b1)
            refine hK.out _ _ HNB.out (fun hHeldx5 => ?_)
            clear hK KK b1 hHeldx3
            try simp only [List.getElem_toArray]
            try simp only [List.getElem_cons_succ]
            try simp only [List.getElem_cons_zero]
            try simp only [Act.put]
            try simp only [List.setIfInBounds_toArray]
            try simp only [List.set_cons_succ]
            try simp only [List.set_cons_zero]
            generalize (x3.alloc (.cells #[.int .i64 0, .int .i64 0, .int .i64 0, .string ⟨#[]⟩, .string ⟨#[]⟩] 28)) = x5 at *
            obtain ⟨C6, hC⟩ : ∃ C6, x3.heap.size = C6 := ⟨_, rfl⟩
            rw [hC] at z5 zl5 zn
            rw [hC]
            clear hC
            have hne : C4 ≠ C6 := by have := zn.out; omega
            have hl4 : w.heap.size + 1 < C4 := zl4.out
            have hl5 : w.heap.size + 1 < C6 := zl5.out
            obtain ⟨⟨g0, g1, g2, g3, g4⟩, gf⟩ := z4.out
            have gf0 := gf 0
            have gf1 := gf 1
            have gf2 := gf 2
            have gf3 := gf 3
            have gf4 := gf 4
            have HNB2 := Lib.hid (And.intro (set5_num HNB.out.1 (C := C4) (by omega) (.int .i64 k) (.int .i64 a) (.int .i64 b) (.string x) (.string v)) (set5_num HNB.out.2 (C := C4) (by omega) (.int .i64 k) (.int .i64 a) (.int .i64 b) (.string x) (.string v)))
            have y4 := Lib.hid (set5_at z4.out k a b x v)
            have y5 := Lib.hid (set5_box z5.out (Ne.symm hne) (.int .i64 k) (.int .i64 a) (.int .i64 b) (.string x) (.string v))
            have HCX := Lib.hid (set5_below (c1.out.trans (HCW.out.mono c1.out.size)) (show w.heap.size ≤ C4 by omega) (.int .i64 k) (.int .i64 a) (.int .i64 b) (.string x) (.string v))
            clear gf zn zl4 zl5
            refine wpAnyH_ready (rs := [6]) (by kernel_rfl) (by simp) ?_
            refine AllReadyH.cons rfl (fun KK hK => ?_) AllReadyH.nil
            go_simp
            refine hK.out _ _ HNB2.out (fun hHeldA => ?_)
            clear hK KK g0 g1 g2 g3 g4 gf0 gf1 gf2 gf3 gf4 z4 z5 HNB
            try simp only [List.getElem_toArray]
            try simp only [List.getElem_cons_succ]
            try simp only [List.getElem_cons_zero]
            try simp only [Act.put]
            try simp only [List.setIfInBounds_toArray]
            try simp only [List.set_cons_succ]
            try simp only [List.set_cons_zero]
            obtain ⟨xe, hxe⟩ : ∃ xe, set5 x5 C4 (.int .i64 k) (.int .i64 a) (.int .i64 b) (.string x) (.string v) = xe := ⟨_, rfl⟩
            rw [hxe] at HNB2 y4 y5 HCX
            have hxe' : (((((x5.setCell ⟨C4, 0, none⟩ (.int .i64 k)).setCell ⟨C4, 1, none⟩ (.int .i64 a)).setCell ⟨C4, 2, none⟩ (.int .i64 b)).setCell ⟨C4, 3, none⟩ (.string x)).setCell ⟨C4, 4, none⟩ (.string v)) = xe := hxe
            rw [hxe']
            clear hxe hxe'
            obtain ⟨⟨g0, g1, g2, g3, g4⟩, gf⟩ := y5.out
            have gf0 := gf 0
            have gf1 := gf 1
            have gf2 := gf 2
            have gf3 := gf 3
            have gf4 := gf 4
            have HNB3 := Lib.hid (And.intro (set5_num HNB2.out.1 (C := C6) (by omega) (.int .i64 k') (.int .i64 a') (.int .i64 b') (.string x') (.string v')) (set5_num HNB2.out.2 (C := C6) (by omega) (.int .i64 k') (.int .i64 a') (.int .i64 b') (.string x') (.string v')))
            have r5 := Lib.hid (set5_at y5.out k' a' b' x' v')
            have r4 := Lib.hid (set5_box y4.out hne (.int .i64 k') (.int .i64 a') (.int .i64 b') (.string x') (.string v'))
            have HCY := Lib.hid (set5_below HCX.out (show w.heap.size ≤ C6 by omega) (.int .i64 k') (.int .i64 a') (.int .i64 b') (.string x') (.string v'))
            refine wpAnyH_ready (rs := [7]) (by kernel_rfl) (by simp) ?_
            refine AllReadyH.cons rfl (fun KK hK => ?_) AllReadyH.nil
            go_simp
            refine hK.out _ _ HNB3.out (fun hHeldB => ?_)
            clear hK KK g0 g1 g2 g3 g4 gf gf0 gf1 gf2 gf3 gf4
            try simp only [List.getElem_toArray]
            try simp only [List.getElem_cons_succ]
            try simp only [List.getElem_cons_zero]
            try simp only [Act.put]
            try simp only [List.setIfInBounds_toArray]
            try simp only [List.set_cons_succ]
            try simp only [List.set_cons_zero]
            refine wpAnyH_done (by kernel_rfl) ?_ _
            refine NoPanic.normal ?_
            go_wp2_with fail
            go_meet
            exact ⟨C4, C6, rfl, rfl, r4, r5, HCY⟩
        · go_simp
          have b1 := (Below.refl x2.heap.size x2).alloc (Nat.le_refl _) (.cells #[.int .i64 0, .int .i64 0, .int .i64 0, .string ⟨#[]⟩, .string ⟨#[]⟩] 28)
          have z5 := Lib.hid (OpBox.new x2 0 0 0 ⟨#[]⟩ ⟨#[]⟩ 28)
          have zl5 := Lib.hid (World.block_lt_of_cell? _ _ HNB.out.2.1)
          replace HCW := Lib.hid (HCW.out.trans (b1.mono HCW.out.size))
          replace HNB := Lib.hid (And.intro (HNB.out.1.below b1) (HNB.out.2.below b1))
          refine hK.out _ _ HNB.out (fun hHeldx7 => ?_)
          clear hK KK b1 hHeldx2
          try simp only [List.getElem_toArray]
          try simp only [List.getElem_cons_succ]
          try simp only [List.getElem_cons_zero]
          try simp only [Act.put]
          try simp only [List.setIfInBounds_toArray]
          try simp only [List.set_cons_succ]
          try simp only [List.set_cons_zero]
          generalize (x2.alloc (.cells #[.int .i64 0, .int .i64 0, .int .i64 0, .string ⟨#[]⟩, .string ⟨#[]⟩] 28)) = x7 at *
          obtain ⟨C8, hC⟩ : ∃ C8, x2.heap.size = C8 := ⟨_, rfl⟩
          rw [hC] at z5 zl5
          rw [hC]
          clear hC
          refine wpAnyH_ready (rs := [4]) (by kernel_rfl) (by simp) ?_
          refine AllReadyH.cons rfl (fun KK hK => ?_) AllReadyH.nil
          · go_simp
            have b1 := (Below.refl x7.heap.size x7).alloc (Nat.le_refl _) (.cells #[.int .i64 0, .int .i64 0, .int .i64 0, .string ⟨#[]⟩, .string ⟨#[]⟩] 28)
            have z4 := Lib.hid (OpBox.new x7 0 0 0 ⟨#[]⟩ ⟨#[]⟩ 28)
            have zl4 := Lib.hid (World.block_lt_of_cell? _ _ HNB.out.2.1)
            have zn := Lib.hid z5.out.lt
            replace HCW := Lib.hid (HCW.out.trans (b1.mono HCW.out.size))
            replace HNB := Lib.hid (And.intro (HNB.out.1.below b1) (HNB.out.2.below b1))
            replace z5 := Lib.hid (z5.out.below b1)
            refine hK.out _ _ HNB.out (fun hHeldx9 => ?_)
            clear hK KK b1 hHeldx7
            try simp only [List.getElem_toArray]
            try simp only [List.getElem_cons_succ]
            try simp only [List.getElem_cons_zero]
            try simp only [Act.put]
            try simp only [List.setIfInBounds_toArray]
            try simp only [List.set_cons_succ]
            try simp only [List.set_cons_zero]
            generalize (x7.alloc (.cells #[.int .i64 0, .int .i64 0, .int .i64 0, .string ⟨#[]⟩, .string ⟨#[]⟩] 28)) = x9 at *
            obtain ⟨C10, hC⟩ : ∃ C10, x7.heap.size = C10 := ⟨_, rfl⟩
            rw [hC] at z4 zl4 zn
            rw [hC]
            clear hC
            have hne : C10 ≠ C8 := by have := zn.out; omega
            have hl4 : w.heap.size + 1 < C10 := zl4.out
            have hl5 : w.heap.size + 1 < C8 := zl5.out
            obtain ⟨⟨g0, g1, g2, g3, g4⟩, gf⟩ := z4.out
            have gf0 := gf 0
            have gf1 := gf 1
            have gf2 := gf 2
            have gf3 := gf 3
            have gf4 := gf 4
            have HNB2 := Lib.hid (And.intro (set5_num HNB.out.1 (C := C10) (by omega) (.int .i64 k) (.int .i64 a) (.int .i64 b) (.string x) (.string v)) (set5_num HNB.out.2 (C := C10) (by omega) (.int .i64 k) (.int .i64 a) (.int .i64 b) (.string x) (.string v)))
            have y4 := Lib.hid (set5_at z4.out k a b x v)
            have y5 := Lib.hid (set5_box z5.out (Ne.symm hne) (.int .i64 k) (.int .i64 a) (.int .i64 b) (.string x) (.string v))
            have HCX := Lib.hid (set5_below (c1.out.trans (HCW.out.mono c1.out.size)) (show w.heap.size ≤ C10 by omega) (.int .i64 k) (.int .i64 a) (.int .i64 b) (.string x) (.string v))
            clear gf zn zl4 zl5
            refine wpAnyH_ready (rs := [6]) (by kernel_rfl) (by simp) ?_
            refine AllReadyH.cons rfl (fun KK hK => ?_) AllReadyH.nil
            go_simp
            refine hK.out _ _ HNB2.out (fun hHeldA => ?_)
            clear hK KK g0 g1 g2 g3 g4 gf0 gf1 gf2 gf3 gf4 z4 z5 HNB
            try simp only [List.getElem_toArray]
            try simp only [List.getElem_cons_succ]
            try simp only [List.getElem_cons_zero]
            try simp only [Act.put]
            try simp only [List.setIfInBounds_toArray]
            try simp only [List.set_cons_succ]
            try simp only [List.set_cons_zero]
            obtain ⟨xe, hxe⟩ : ∃ xe, set5 x9 C10 (.int .i64 k) (.int .i64 a) (.int .i64 b) (.string x) (.string v) = xe := ⟨_, rfl⟩
            rw [hxe] at HNB2 y4 y5 HCX
            have hxe' : (((((x9.setCell ⟨C10, 0, none⟩ (.int .i64 k)).setCell ⟨C10, 1, none⟩ (.int .i64 a)).setCell ⟨C10, 2, none⟩ (.int .i64 b)).setCell ⟨C10, 3, none⟩ (.string x)).setCell ⟨C10, 4, none⟩ (.string v)) = xe := hxe
            rw [hxe']
            clear hxe hxe'
            obtain ⟨⟨g0, g1, g2, g3, g4⟩, gf⟩ := y5.out
            have gf0 := gf 0
            have gf1 := gf 1
            have gf2 := gf 2
            have gf3 := gf 3
            have gf4 := gf 4
            have HNB3 := Lib.hid (And.intro (set5_num HNB2.out.1 (C := C8) (by omega) (.int .i64 k') (.int .i64 a') (.int .i64 b') (.string x') (.string v')) (set5_num HNB2.out.2 (C := C8) (by omega) (.int .i64 k') (.int .i64 a') (.int .i64 b') (.string x') (.string v')))
            have r5 := Lib.hid (set5_at y5.out k' a' b' x' v')
            have r4 := Lib.hid (set5_box y4.out hne (.int .i64 k') (.int .i64 a') (.int .i64 b') (.string x') (.string v'))
            have HCY := Lib.hid (set5_below HCX.out (show w.heap.size ≤ C8 by omega) (.int .i64 k') (.int .i64 a') (.int .i64 b') (.string x') (.string v'))
            refine wpAnyH_ready (rs := [7]) (by kernel_rfl) (by simp) ?_
            refine AllReadyH.cons rfl (fun KK hK => ?_) AllReadyH.nil
            go_simp
            refine hK.out _ _ HNB3.out (fun hHeldB => ?_)
            clear hK KK g0 g1 g2 g3 g4 gf gf0 gf1 gf2 gf3 gf4
            try simp only [List.getElem_toArray]
            try simp only [List.getElem_cons_succ]
            try simp only [List.getElem_cons_zero]
            try simp only [Act.put]
            try simp only [List.setIfInBounds_toArray]
            try simp only [List.set_cons_succ]
            try simp only [List.set_cons_zero]
            refine wpAnyH_done (by kernel_rfl) ?_ _
            refine NoPanic.normal ?_
            go_wp2_with fail
            go_meet
            exact ⟨C10, C8, rfl, rfl, r4, r5, HCY⟩
      · go_simp
        have b1 := (Below.refl x1.heap.size x1).alloc (Nat.le_refl _) (.cells #[.int .i64 0, .int .i64 0, .int .i64 0, .string ⟨#[]⟩, .string ⟨#[]⟩] 28)
        have z4 := Lib.hid (OpBox.new x1 0 0 0 ⟨#[]⟩ ⟨#[]⟩ 28)
        have zl4 := Lib.hid (World.block_lt_of_cell? _ _ HNB.out.2.1)
        replace HCW := Lib.hid (HCW.out.trans (b1.mono HCW.out.size))
        replace HNB := Lib.hid (And.intro (HNB.out.1.below b1) (HNB.out.2.below b1))
        refine hK.out _ _ HNB.out (fun hHeldx11 => ?_)
        clear hK KK b1 hHeldx1
        try simp only [List.getElem_toArray]
        try simp only [List.getElem_cons_succ]
        try simp only [List.getElem_cons_zero]
        try simp only [Act.put]
        try simp only [List.setIfInBounds_toArray]
        try simp only [List.set_cons_succ]
        try simp only [List.set_cons_zero]
        generalize (x1.alloc (.cells #[.int .i64 0, .int .i64 0, .int .i64 0, .string ⟨#[]⟩, .string ⟨#[]⟩] 28)) = x11 at *
        obtain ⟨C12, hC⟩ : ∃ C12, x1.heap.size = C12 := ⟨_, rfl⟩
        rw [hC] at z4 zl4
        rw [hC]
        clear hC
        refine wpAnyH_ready (rs := [3, 5]) (by kernel_rfl) (by simp) ?_
        refine AllReadyH.cons rfl (fun KK hK => ?_) (AllReadyH.cons rfl (fun KK hK => ?_) AllReadyH.nil)
        · go_simp
          refine (made_is K' Y' Q' T' HN'.out u' l' _ (HU'.out.below HCW.out) (HE.out.below (c1.out.trans (HCW.out.mono c1.out.size))).1 k' a' b' x' v' HO'.out).mono ?_
          rintro e x13 ⟨rfl, b1⟩
          replace HCW := Lib.hid (HCW.out.trans (b1.mono HCW.out.size))
          replace HNB := Lib.hid (And.intro (HNB.out.1.below b1) (HNB.out.2.below b1))
          replace z4 := Lib.hid (z4.out.below b1)
          refine hK.out _ _ HNB.out (fun hHeldx13 => ?_)
          clear hK KK b1 hHeldx11
          try simp only [List.getElem_toArray]
          try simp only [List.getElem_cons_succ]
          try simp only [List.getElem_cons_zero]
          try simp only [Act.put]
          try simp only [List.setIfInBounds_toArray]
          try simp only [List.set_cons_succ]
          try simp only [List.set_cons_zero]
          refine wpAnyH_ready (rs := [5]) (by kernel_rfl) (by simp) ?_
          refine AllReadyH.cons rfl (fun KK hK => ?_) AllReadyH.nil
          · go_simp
            have b1 := (Below.refl x13.heap.size x13).alloc (Nat.le_refl _) (.cells #[.int .i64 0, .int .i64 0, .int .i64 0, .string ⟨#[]⟩, .string ⟨#[]⟩] 28)
            have z5 := Lib.hid (OpBox.new x13 0 0 0 ⟨#[]⟩ ⟨#[]⟩ 28)
            have zl5 := Lib.hid (World.block_lt_of_cell? _ _ HNB.out.2.1)
            have zn := Lib.hid z4.out.lt
            replace HCW := Lib.hid (HCW.out.trans (b1.mono HCW.out.size))
            replace HNB := Lib.hid (And.intro (HNB.out.1.below b1) (HNB.out.2.below b1))
            replace z4 := Lib.hid (z4.out.below b1)
            refine hK.out _ _ HNB.out (fun hHeldx14 => ?_)
            clear hK KK b1 hHeldx13
            try simp only [List.getElem_toArray]
            try simp only [List.getElem_cons_succ]
            try simp only [List.getElem_cons_zero]
            try simp only [Act.put]
            try simp only [List.setIfInBounds_toArray]
            try simp only [List.set_cons_succ]
            try simp only [List.set_cons_zero]
            generalize (x13.alloc (.cells #[.int .i64 0, .int .i64 0, .int .i64 0, .string ⟨#[]⟩, .string ⟨#[]⟩] 28)) = x14 at *
            obtain ⟨C15, hC⟩ : ∃ C15, x13.heap.size = C15 := ⟨_, rfl⟩
            rw [hC] at z5 zl5 zn
            rw [hC]
            clear hC
            have hne : C12 ≠ C15 := by have := zn.out; omega
            have hl4 : w.heap.size + 1 < C12 := zl4.out
            have hl5 : w.heap.size + 1 < C15 := zl5.out
            obtain ⟨⟨g0, g1, g2, g3, g4⟩, gf⟩ := z4.out
            have gf0 := gf 0
            have gf1 := gf 1
            have gf2 := gf 2
            have gf3 := gf 3
            have gf4 := gf 4
            have HNB2 := Lib.hid (And.intro (set5_num HNB.out.1 (C := C12) (by omega) (.int .i64 k) (.int .i64 a) (.int .i64 b) (.string x) (.string v)) (set5_num HNB.out.2 (C := C12) (by omega) (.int .i64 k) (.int .i64 a) (.int .i64 b) (.string x) (.string v)))
            have y4 := Lib.hid (set5_at z4.out k a b x v)
            have y5 := Lib.hid (set5_box z5.out (Ne.symm hne) (.int .i64 k) (.int .i64 a) (.int .i64 b) (.string x) (.string v))
            have HCX := Lib.hid (set5_below (c1.out.trans (HCW.out.mono c1.out.size)) (show w.heap.size ≤ C12 by omega) (.int .i64 k) (.int .i64 a) (.int .i64 b) (.string x) (.string v))
            clear gf zn zl4 zl5
            refine wpAnyH_ready (rs := [6]) (by kernel_rfl) (by simp) ?_
            refine AllReadyH.cons rfl (fun KK hK => ?_) AllReadyH.nil
            go_simp
            refine hK.out _ _ HNB2.out (fun hHeldA => ?_)
            clear hK KK g0 g1 g2 g3 g4 gf0 gf1 gf2 gf3 gf4 z4 z5 HNB
            try simp only [List.getElem_toArray]
            try simp only [List.getElem_cons_succ]
            try simp only [List.getElem_cons_zero]
            try simp only [Act.put]
            try simp only [List.setIfInBounds_toArray]
            try simp only [List.set_cons_succ]
            try simp only [List.set_cons_zero]
            obtain ⟨xe, hxe⟩ : ∃ xe, set5 x14 C12 (.int .i64 k) (.int .i64 a) (.int .i64 b) (.string x) (.string v) = xe := ⟨_, rfl⟩
            rw [hxe] at HNB2 y4 y5 HCX
            have hxe' : (((((x14.setCell ⟨C12, 0, none⟩ (.int .i64 k)).setCell ⟨C12, 1, none⟩ (.int .i64 a)).setCell ⟨C12, 2, none⟩ (.int .i64 b)).setCell ⟨C12, 3, none⟩ (.string x)).setCell ⟨C12, 4, none⟩ (.string v)) = xe := hxe
            rw [hxe']
            clear hxe hxe'
            obtain ⟨⟨g0, g1, g2, g3, g4⟩, gf⟩ := y5.out
            have gf0 := gf 0
            have gf1 := gf 1
            have gf2 := gf 2
            have gf3 := gf 3
            have gf4 := gf 4
            have HNB3 := Lib.hid (And.intro (set5_num HNB2.out.1 (C := C15) (by omega) (.int .i64 k') (.int .i64 a') (.int .i64 b') (.string x') (.string v')) (set5_num HNB2.out.2 (C := C15) (by omega) (.int .i64 k') (.int .i64 a') (.int .i64 b') (.string x') (.string v')))
            have r5 := Lib.hid (set5_at y5.out k' a' b' x' v')
            have r4 := Lib.hid (set5_box y4.out hne (.int .i64 k') (.int .i64 a') (.int .i64 b') (.string x') (.string v'))
            have HCY := Lib.hid (set5_below HCX.out (show w.heap.size ≤ C15 by omega) (.int .i64 k') (.int .i64 a') (.int .i64 b') (.string x') (.string v'))
            refine wpAnyH_ready (rs := [7]) (by kernel_rfl) (by simp) ?_
            refine AllReadyH.cons rfl (fun KK hK => ?_) AllReadyH.nil
            go_simp
            refine hK.out _ _ HNB3.out (fun hHeldB => ?_)
            clear hK KK g0 g1 g2 g3 g4 gf gf0 gf1 gf2 gf3 gf4
            try simp only [List.getElem_toArray]
            try simp only [List.getElem_cons_succ]
            try simp only [List.getElem_cons_zero]
            try simp only [Act.put]
            try simp only [List.setIfInBounds_toArray]
            try simp only [List.set_cons_succ]
            try simp only [List.set_cons_zero]
            refine wpAnyH_done (by kernel_rfl) ?_ _
            refine NoPanic.normal ?_
            go_wp2_with fail
            go_meet
            exact ⟨C12, C15, rfl, rfl, r4, r5, HCY⟩
        · go_simp
          have b1 := (Below.refl x11.heap.size x11).alloc (Nat.le_refl _) (.cells #[.int .i64 0, .int .i64 0, .int .i64 0, .string ⟨#[]⟩, .string ⟨#[]⟩] 28)
          have z5 := Lib.hid (OpBox.new x11 0 0 0 ⟨#[]⟩ ⟨#[]⟩ 28)
          have zl5 := Lib.hid (World.block_lt_of_cell? _ _ HNB.out.2.1)
          have zn := Lib.hid z4.out.lt
          replace HCW := Lib.hid (HCW.out.trans (b1.mono HCW.out.size))
          replace HNB := Lib.hid (And.intro (HNB.out.1.below b1) (HNB.out.2.below b1))
          replace z4 := Lib.hid (z4.out.below b1)
          refine hK.out _ _ HNB.out (fun hHeldx16 => ?_)
          clear hK KK b1 hHeldx11
          try simp only [List.getElem_toArray]
          try simp only [List.getElem_cons_succ]
          try simp only [List.getElem_cons_zero]
          try simp only [Act.put]
          try simp only [List.setIfInBounds_toArray]
          try simp only [List.set_cons_succ]
          try simp only [List.set_cons_zero]
          generalize (x11.alloc (.cells #[.int .i64 0, .int .i64 0, .int .i64 0, .string ⟨#[]⟩, .string ⟨#[]⟩] 28)) = x16 at *
          obtain ⟨C17, hC⟩ : ∃ C17, x11.heap.size = C17 := ⟨_, rfl⟩
          rw [hC] at z5 zl5 zn
          rw [hC]
          clear hC
          refine wpAnyH_ready (rs := [3]) (by kernel_rfl) (by simp) ?_
          refine AllReadyH.cons rfl (fun KK hK => ?_) AllReadyH.nil
          · go_simp
            refine (made_is K' Y' Q' T' HN'.out u' l' _ (HU'.out.below HCW.out) (HE.out.below (c1.out.trans (HCW.out.mono c1.out.size))).1 k' a' b' x' v' HO'.out).mono ?_
            rintro e x18 ⟨rfl, b1⟩
            replace HCW := Lib.hid (HCW.out.trans (b1.mono HCW.out.size))
            replace HNB := Lib.hid (And.intro (HNB.out.1.below b1) (HNB.out.2.below b1))
            replace z4 := Lib.hid (z4.out.below b1)
            replace z5 := Lib.hid (z5.out.below b1)
            refine hK.out _ _ HNB.out (fun hHeldx18 => ?_)
            clear hK KK b1 hHeldx16
            try simp only [List.getElem_toArray]
            try simp only [List.getElem_cons_succ]
            try simp only [List.getElem_cons_zero]
            try simp only [Act.put]
            try simp only [List.setIfInBounds_toArray]
            try simp only [List.set_cons_succ]
            try simp only [List.set_cons_zero]
            have hne : C12 ≠ C17 := by have := zn.out; omega
            have hl4 : w.heap.size + 1 < C12 := zl4.out
            have hl5 : w.heap.size + 1 < C17 := zl5.out
            obtain ⟨⟨g0, g1, g2, g3, g4⟩, gf⟩ := z4.out
            have gf0 := gf 0
            have gf1 := gf 1
            have gf2 := gf 2
            have gf3 := gf 3
            have gf4 := gf 4
            have HNB2 := Lib.hid (And.intro (set5_num HNB.out.1 (C := C12) (by omega) (.int .i64 k) (.int .i64 a) (.int .i64 b) (.string x) (.string v)) (set5_num HNB.out.2 (C := C12) (by omega) (.int .i64 k) (.int .i64 a) (.int .i64 b) (.string x) (.string v)))
            have y4 := Lib.hid (set5_at z4.out k a b x v)
            have y5 := Lib.hid (set5_box z5.out (Ne.symm hne) (.int .i64 k) (.int .i64 a) (.int .i64 b) (.string x) (.string v))
            have HCX := Lib.hid (set5_below (c1.out.trans (HCW.out.mono c1.out.size)) (show w.heap.size ≤ C12 by omega) (.int .i64 k) (.int .i64 a) (.int .i64 b) (.string x) (.string v))
            clear gf zn zl4 zl5
            refine wpAnyH_ready (rs := [6]) (by kernel_rfl) (by simp) ?_
            refine AllReadyH.cons rfl (fun KK hK => ?_) AllReadyH.nil
            go_simp
            refine hK.out _ _ HNB2.out (fun hHeldA => ?_)
            clear hK KK g0 g1 g2 g3 g4 gf0 gf1 gf2 gf3 gf4 z4 z5 HNB
            try simp only [List.getElem_toArray]
            try simp only [List.getElem_cons_succ]
            try simp only [List.getElem_cons_zero]
            try simp only [Act.put]
            try simp only [List.setIfInBounds_toArray]
            try simp only [List.set_cons_succ]
            try simp only [List.set_cons_zero]
            obtain ⟨xe, hxe⟩ : ∃ xe, set5 x18 C12 (.int .i64 k) (.int .i64 a) (.int .i64 b) (.string x) (.string v) = xe := ⟨_, rfl⟩
            rw [hxe] at HNB2 y4 y5 HCX
            have hxe' : (((((x18.setCell ⟨C12, 0, none⟩ (.int .i64 k)).setCell ⟨C12, 1, none⟩ (.int .i64 a)).setCell ⟨C12, 2, none⟩ (.int .i64 b)).setCell ⟨C12, 3, none⟩ (.string x)).setCell ⟨C12, 4, none⟩ (.string v)) = xe := hxe
            rw [hxe']
            clear hxe hxe'
            obtain ⟨⟨g0, g1, g2, g3, g4⟩, gf⟩ := y5.out
            have gf0 := gf 0
            have gf1 := gf 1
            have gf2 := gf 2
            have gf3 := gf 3
            have gf4 := gf 4
            have HNB3 := Lib.hid (And.intro (set5_num HNB2.out.1 (C := C17) (by omega) (.int .i64 k') (.int .i64 a') (.int .i64 b') (.string x') (.string v')) (set5_num HNB2.out.2 (C := C17) (by omega) (.int .i64 k') (.int .i64 a') (.int .i64 b') (.string x') (.string v')))
            have r5 := Lib.hid (set5_at y5.out k' a' b' x' v')
            have r4 := Lib.hid (set5_box y4.out hne (.int .i64 k') (.int .i64 a') (.int .i64 b') (.string x') (.string v'))
            have HCY := Lib.hid (set5_below HCX.out (show w.heap.size ≤ C17 by omega) (.int .i64 k') (.int .i64 a') (.int .i64 b') (.string x') (.string v'))
            refine wpAnyH_ready (rs := [7]) (by kernel_rfl) (by simp) ?_
            refine AllReadyH.cons rfl (fun KK hK => ?_) AllReadyH.nil
            go_simp
            refine hK.out _ _ HNB3.out (fun hHeldB => ?_)
            clear hK KK g0 g1 g2 g3 g4 gf gf0 gf1 gf2 gf3 gf4
            try simp only [List.getElem_toArray]
            try simp only [List.getElem_cons_succ]
            try simp only [List.getElem_cons_zero]
            try simp only [Act.put]
            try simp only [List.setIfInBounds_toArray]
            try simp only [List.set_cons_succ]
            try simp only [List.set_cons_zero]
            refine wpAnyH_done (by kernel_rfl) ?_ _
            refine NoPanic.normal ?_
            go_wp2_with fail
            go_meet
            exact ⟨C12, C17, rfl, rfl, r4, r5, HCY⟩
      · go_simp
        have b1 := (Below.refl x1.heap.size x1).alloc (Nat.le_refl _) (.cells #[.int .i64 0, .int .i64 0, .int .i64 0, .string ⟨#[]⟩, .string ⟨#[]⟩] 28)
        have z5 := Lib.hid (OpBox.new x1 0 0 0 ⟨#[]⟩ ⟨#[]⟩ 28)
        have zl5 := Lib.hid (World.block_lt_of_cell? _ _ HNB.out.2.1)
        replace HCW := Lib.hid (HCW.out.trans (b1.mono HCW.out.size))
        replace HNB := Lib.hid (And.intro (HNB.out.1.below b1) (HNB.out.2.below b1))
        refine hK.out _ _ HNB.out (fun hHeldx19 => ?_)
        clear hK KK b1 hHeldx1
        try simp only [List.getElem_toArray]
        try simp only [List.getElem_cons_succ]
        try simp only [List.getElem_cons_zero]
        try simp only [Act.put]
        try simp only [List.setIfInBounds_toArray]
        try simp only [List.set_cons_succ]
        try simp only [List.set_cons_zero]
        generalize (x1.alloc (.cells #[.int .i64 0, .int .i64 0, .int .i64 0, .string ⟨#[]⟩, .string ⟨#[]⟩] 28)) = x19 at *
        obtain ⟨C20, hC⟩ : ∃ C20, x1.heap.size = C20 := ⟨_, rfl⟩
        rw [hC] at z5 zl5
        rw [hC]
        clear hC
        refine wpAnyH_ready (rs := [3, 4]) (by kernel_rfl) (by simp) ?_
        refine AllReadyH.cons rfl (fun KK hK => ?_) (AllReadyH.cons rfl (fun KK hK => ?_) AllReadyH.nil)
        · go_simp
          refine (made_is K' Y' Q' T' HN'.out u' l' _ (HU'.out.below HCW.out) (HE.out.below (c1.out.trans (HCW.out.mono c1.out.size))).1 k' a' b' x' v' HO'.out).mono ?_
          rintro e x21 ⟨rfl, b1⟩
          replace HCW := Lib.hid (HCW.out.trans (b1.mono HCW.out.size))
          replace HNB := Lib.hid (And.intro (HNB.out.1.below b1) (HNB.out.2.below b1))
          replace z5 := Lib.hid (z5.out.below b1)
          refine hK.out _ _ HNB.out (fun hHeldx21 => ?_)
          clear hK KK b1 hHeldx19
          try simp only [List.getElem_toArray]
          try simp only [List.getElem_cons_succ]
          try simp only [List.getElem_cons_zero]
          try simp only [Act.put]
          try simp only [List.setIfInBounds_toArray]
          try simp only [List.set_cons_succ]
          try simp only [List.set_cons_zero]
          refine wpAnyH_ready (rs := [4]) (by kernel_rfl) (by simp) ?_
          refine AllReadyH.cons rfl (fun KK hK => ?_) AllReadyH.nil
          · go_simp
            have b1 := (Below.refl x21.heap.size x21).alloc (Nat.le_refl _) (.cells #[.int .i64 0, .int .i64 0, .int .i64 0, .string ⟨#[]⟩, .string ⟨#[]⟩] 28)
            have z4 := Lib.hid (OpBox.new x21 0 0 0 ⟨#[]⟩ ⟨#[]⟩ 28)
            have zl4 := Lib.hid (World.block_lt_of_cell? _ _ HNB.out.2.1)
            have zn := Lib.hid z5.out.lt
            replace HCW := Lib.hid (HCW.out.trans (b1.mono HCW.out.size))
            replace HNB := Lib.hid (And.intro (HNB.out.1.below b1) (HNB.out.2.below b1))
            replace z5 := Lib.hid (z5.out.below b1)
            refine hK.out _ _ HNB.out (fun hHeldx22 => ?_)
            clear hK KK b1 hHeldx21
            try simp only [List.getElem_toArray]
            try simp only [List.getElem_cons_succ]
            try simp only [List.getElem_cons_zero]
            try simp only [Act.put]
            try simp only [List.setIfInBounds_toArray]
            try simp only [List.set_cons_succ]
            try simp only [List.set_cons_zero]
            generalize (x21.alloc (.cells #[.int .i64 0, .int .i64 0, .int .i64 0, .string ⟨#[]⟩, .string ⟨#[]⟩] 28)) = x22 at *
            obtain ⟨C23, hC⟩ : ∃ C23, x21.heap.size = C23 := ⟨_, rfl⟩
            rw [hC] at z4 zl4 zn
            rw [hC]
            clear hC
            have hne : C23 ≠ C20 := by have := zn.out; omega
            have hl4 : w.heap.size + 1 < C23 := zl4.out
            have hl5 : w.heap.size + 1 < C20 := zl5.out
            obtain ⟨⟨g0, g1, g2, g3, g4⟩, gf⟩ := z4.out
            have gf0 := gf 0
            have gf1 := gf 1
            have gf2 := gf 2
            have gf3 := gf 3
            have gf4 := gf 4
            have HNB2 := Lib.hid (And.intro (set5_num HNB.out.1 (C := C23) (by omega) (.int .i64 k) (.int .i64 a) (.int .i64 b) (.string x) (.string v)) (set5_num HNB.out.2 (C := C23) (by omega) (.int .i64 k) (.int .i64 a) (.int .i64 b) (.string x) (.string v)))
            have y4 := Lib.hid (set5_at z4.out k a b x v)
            have y5 := Lib.hid (set5_box z5.out (Ne.symm hne) (.int .i64 k) (.int .i64 a) (.int .i64 b) (.string x) (.string v))
            have HCX := Lib.hid (set5_below (c1.out.trans (HCW.out.mono c1.out.size)) (show w.heap.size ≤ C23 by omega) (.int .i64 k) (.int .i64 a) (.int .i64 b) (.string x) (.string v))
            clear gf zn zl4 zl5
            refine wpAnyH_ready (rs := [6]) (by kernel_rfl) (by simp) ?_
            refine AllReadyH.cons rfl (fun KK hK => ?_) AllReadyH.nil
            go_simp
            refine hK.out _ _ HNB2.out (fun hHeldA => ?_)
            clear hK KK g0 g1 g2 g3 g4 gf0 gf1 gf2 gf3 gf4 z4 z5 HNB
            try simp only [List.getElem_toArray]
            try simp only [List.getElem_cons_succ]
            try simp only [List.getElem_cons_zero]
            try simp only [Act.put]
            try simp only [List.setIfInBounds_toArray]
            try simp only [List.set_cons_succ]
            try simp only [List.set_cons_zero]
            obtain ⟨xe, hxe⟩ : ∃ xe, set5 x22 C23 (.int .i64 k) (.int .i64 a) (.int .i64 b) (.string x) (.string v) = xe := ⟨_, rfl⟩
            rw [hxe] at HNB2 y4 y5 HCX
            have hxe' : (((((x22.setCell ⟨C23, 0, none⟩ (.int .i64 k)).setCell ⟨C23, 1, none⟩ (.int .i64 a)).setCell ⟨C23, 2, none⟩ (.int .i64 b)).setCell ⟨C23, 3, none⟩ (.string x)).setCell ⟨C23, 4, none⟩ (.string v)) = xe := hxe
            rw [hxe']
            clear hxe hxe'
            obtain ⟨⟨g0, g1, g2, g3, g4⟩, gf⟩ := y5.out
            have gf0 := gf 0
            have gf1 := gf 1
            have gf2 := gf 2
            have gf3 := gf 3
            have gf4 := gf 4
            have HNB3 := Lib.hid (And.intro (set5_num HNB2.out.1 (C := C20) (by omega) (.int .i64 k') (.int .i64 a') (.int .i64 b') (.string x') (.string v')) (set5_num HNB2.out.2 (C := C20) (by omega) (.int .i64 k') (.int .i64 a') (.int .i64 b') (.string x') (.string v')))
            have r5 := Lib.hid (set5_at y5.out k' a' b' x' v')
            have r4 := Lib.hid (set5_box y4.out hne (.int .i64 k') (.int .i64 a') (.int .i64 b') (.string x') (.string v'))
            have HCY := Lib.hid (set5_below HCX.out (show w.heap.size ≤ C20 by omega) (.int .i64 k') (.int .i64 a') (.int .i64 b') (.string x') (.string v'))
            refine wpAnyH_ready (rs := [7]) (by kernel_rfl) (by simp) ?_
            refine AllReadyH.cons rfl (fun KK hK => ?_) AllReadyH.nil
            go_simp
            refine hK.out _ _ HNB3.out (fun hHeldB => ?_)
            clear hK KK g0 g1 g2 g3 g4 gf gf0 gf1 gf2 gf3 gf4
            try simp only [List.getElem_toArray]
            try simp only [List.getElem_cons_succ]
            try simp only [List.getElem_cons_zero]
            try simp only [Act.put]
            try simp only [List.setIfInBounds_toArray]
            try simp only [List.set_cons_succ]
            try simp only [List.set_cons_zero]
            refine wpAnyH_done (by kernel_rfl) ?_ _
            refine NoPanic.normal ?_
            go_wp2_with fail
            go_meet
            exact ⟨C23, C20, rfl, rfl, r4, r5, HCY⟩
        · go_simp
          have b1 := (Below.refl x19.heap.size x19).alloc (Nat.le_refl _) (.cells #[.int .i64 0, .int .i64 0, .int .i64 0, .string ⟨#[]⟩, .string ⟨#[]⟩] 28)
          have z4 := Lib.hid (OpBox.new x19 0 0 0 ⟨#[]⟩ ⟨#[]⟩ 28)
          have zl4 := Lib.hid (World.block_lt_of_cell? _ _ HNB.out.2.1)
          have zn := Lib.hid z5.out.lt
          replace HCW := Lib.hid (HCW.out.trans (b1.mono HCW.out.size))
          replace HNB := Lib.hid (And.intro (HNB.out.1.below b1) (HNB.out.2.below b1))
          replace z5 := Lib.hid (z5.out.below b1)
          refine hK.out _ _ HNB.out (fun hHeldx24 => ?_)
          clear hK KK b1 hHeldx19
          try simp only [List.getElem_toArray]
          try simp only [List.getElem_cons_succ]
          try simp only [List.getElem_cons_zero]
          try simp only [Act.put]
          try simp only [List.setIfInBounds_toArray]
          try simp only [List.set_cons_succ]
          try simp only [List.set_cons_zero]
          generalize (x19.alloc (.cells #[.int .i64 0, .int .i64 0, .int .i64 0, .string ⟨#[]⟩, .string ⟨#[]⟩] 28)) = x24 at *
          obtain ⟨C25, hC⟩ : ∃ C25, x19.heap.size = C25 := ⟨_, rfl⟩
          rw [hC] at z4 zl4 zn
          rw [hC]
          clear hC
          refine wpAnyH_ready (rs := [3]) (by kernel_rfl) (by simp) ?_
          refine AllReadyH.cons rfl (fun KK hK => ?_) AllReadyH.nil
          · go_simp
            refine (made_is K' Y' Q' T' HN'.out u' l' _ (HU'.out.below HCW.out) (HE.out.below (c1.out.trans (HCW.out.mono c1.out.size))).1 k' a' b' x' v' HO'.out).mono ?_
            rintro e x26 ⟨rfl, b1⟩
            replace HCW := Lib.hid (HCW.out.trans (b1.mono HCW.out.size))
            replace HNB := Lib.hid (And.intro (HNB.out.1.below b1) (HNB.out.2.below b1))
            replace z5 := Lib.hid (z5.out.below b1)
            replace z4 := Lib.hid (z4.out.below b1)
            refine hK.out _ _ HNB.out (fun hHeldx26 => ?_)
            clear hK KK b1 hHeldx24
            try simp only [List.getElem_toArray]
            try simp only [List.getElem_cons_succ]
            try simp only [List.getElem_cons_zero]
            try simp only [Act.put]
            try simp only [List.setIfInBounds_toArray]
            try simp only [List.set_cons_succ]
            try simp only [List.set_cons_zero]
            have hne : C25 ≠ C20 := by have := zn.out; omega
            have hl4 : w.heap.size + 1 < C25 := zl4.out
            have hl5 : w.heap.size + 1 < C20 := zl5.out
            obtain ⟨⟨g0, g1, g2, g3, g4⟩, gf⟩ := z4.out
            have gf0 := gf 0
            have gf1 := gf 1
            have gf2 := gf 2
            have gf3 := gf 3
            have gf4 := gf 4
            have HNB2 := Lib.hid (And.intro (set5_num HNB.out.1 (C := C25) (by omega) (.int .i64 k) (.int .i64 a) (.int .i64 b) (.string x) (.string v)) (set5_num HNB.out.2 (C := C25) (by omega) (.int .i64 k) (.int .i64 a) (.int .i64 b) (.string x) (.string v)))
            have y4 := Lib.hid (set5_at z4.out k a b x v)
            have y5 := Lib.hid (set5_box z5.out (Ne.symm hne) (.int .i64 k) (.int .i64 a) (.int .i64 b) (.string x) (.string v))
            have HCX := Lib.hid (set5_below (c1.out.trans (HCW.out.mono c1.out.size)) (show w.heap.size ≤ C25 by omega) (.int .i64 k) (.int .i64 a) (.int .i64 b) (.string x) (.string v))
            clear gf zn zl4 zl5
            refine wpAnyH_ready (rs := [6]) (by kernel_rfl) (by simp) ?_
            refine AllReadyH.cons rfl (fun KK hK => ?_) AllReadyH.nil
            go_simp
            refine hK.out _ _ HNB2.out (fun hHeldA => ?_)
            clear hK KK g0 g1 g2 g3 g4 gf0 gf1 gf2 gf3 gf4 z4 z5 HNB
            try simp only [List.getElem_toArray]
            try simp only [List.getElem_cons_succ]
            try simp only [List.getElem_cons_zero]
            try simp only [Act.put]
            try simp only [List.setIfInBounds_toArray]
            try simp only [List.set_cons_succ]
            try simp only [List.set_cons_zero]
            obtain ⟨xe, hxe⟩ : ∃ xe, set5 x26 C25 (.int .i64 k) (.int .i64 a) (.int .i64 b) (.string x) (.string v) = xe := ⟨_, rfl⟩
            rw [hxe] at HNB2 y4 y5 HCX
            have hxe' : (((((x26.setCell ⟨C25, 0, none⟩ (.int .i64 k)).setCell ⟨C25, 1, none⟩ (.int .i64 a)).setCell ⟨C25, 2, none⟩ (.int .i64 b)).setCell ⟨C25, 3, none⟩ (.string x)).setCell ⟨C25, 4, none⟩ (.string v)) = xe := hxe
            rw [hxe']
            clear hxe hxe'
            obtain ⟨⟨g0, g1, g2, g3, g4⟩, gf⟩ := y5.out
            have gf0 := gf 0
            have gf1 := gf 1
            have gf2 := gf 2
            have gf3 := gf 3
            have gf4 := gf 4
            have HNB3 := Lib.hid (And.intro (set5_num HNB2.out.1 (C := C20) (by omega) (.int .i64 k') (.int .i64 a') (.int .i64 b') (.string x') (.string v')) (set5_num HNB2.out.2 (C := C20) (by omega) (.int .i64 k') (.int .i64 a') (.int .i64 b') (.string x') (.string v')))
            have r5 := Lib.hid (set5_at y5.out k' a' b' x' v')
            have r4 := Lib.hid (set5_box y4.out hne (.int .i64 k') (.int .i64 a') (.int .i64 b') (.string x') (.string v'))
            have HCY := Lib.hid (set5_below HCX.out (show w.heap.size ≤ C20 by omega) (.int .i64 k') (.int .i64 a') (.int .i64 b') (.string x') (.string v'))
            refine wpAnyH_ready (rs := [7]) (by kernel_rfl) (by simp) ?_
            refine AllReadyH.cons rfl (fun KK hK => ?_) AllReadyH.nil
            go_simp
            refine hK.out _ _ HNB3.out (fun hHeldB => ?_)
            clear hK KK g0 g1 g2 g3 g4 gf gf0 gf1 gf2 gf3 gf4
            try simp only [List.getElem_toArray]
            try simp only [List.getElem_cons_succ]
            try simp only [List.getElem_cons_zero]
            try simp only [Act.put]
            try simp only [List.setIfInBounds_toArray]
            try simp only [List.set_cons_succ]
            try simp only [List.set_cons_zero]
            refine wpAnyH_done (by kernel_rfl) ?_ _
            refine NoPanic.normal ?_
            go_wp2_with fail
            go_meet
            exact ⟨C25, C20, rfl, rfl, r4, r5, HCY⟩
    · go_simp
      have b1 := (Below.refl xw.heap.size xw).alloc (Nat.le_refl _) (.cells #[.int .i64 0, .int .i64 0, .int .i64 0, .string ⟨#[]⟩, .string ⟨#[]⟩] 28)
      have z4 := Lib.hid (OpBox.new xw 0 0 0 ⟨#[]⟩ ⟨#[]⟩ 28)
      have zl4 := Lib.hid (World.block_lt_of_cell? _ _ HNB.out.2.1)
      replace HCW := Lib.hid (HCW.out.trans (b1.mono HCW.out.size))
      replace HNB := Lib.hid (And.intro (HNB.out.1.below b1) (HNB.out.2.below b1))
      refine hK.out _ _ HNB.out (fun hHeldx27 => ?_)
      clear hK KK b1 hHeld
      try simp only [List.getElem_toArray]
      try simp only [List.getElem_cons_succ]
      try simp only [List.getElem_cons_zero]
      try simp only [Act.put]
      try simp only [List.setIfInBounds_toArray]
      try simp only [List.set_cons_succ]
      try simp only [List.set_cons_zero]
      generalize (xw.alloc (.cells #[.int .i64 0, .int .i64 0, .int .i64 0, .string ⟨#[]⟩, .string ⟨#[]⟩] 28)) = x27 at *
      obtain ⟨C28, hC⟩ : ∃ C28, xw.heap.size = C28 := ⟨_, rfl⟩
      rw [hC] at z4 zl4
      rw [hC]
      clear hC
      refine wpAnyH_ready (rs := [1, 5]) (by kernel_rfl) (by simp) ?_
      refine AllReadyH.cons rfl (fun KK hK => ?_) (AllReadyH.cons rfl (fun KK hK => ?_) AllReadyH.nil)
      · go_simp
        refine (made_is K Y Q T HN.out u l _ (HU.out.below HCW.out) (HE.out.below (c1.out.trans (HCW.out.mono c1.out.size))).1 k a b x v HO.out).mono ?_
        rintro e x29 ⟨rfl, b1⟩
        replace HCW := Lib.hid (HCW.out.trans (b1.mono HCW.out.size))
        replace HNB := Lib.hid (And.intro (HNB.out.1.below b1) (HNB.out.2.below b1))
        replace z4 := Lib.hid (z4.out.below b1)
        refine hK.out _ _ HNB.out (fun hHeldx29 => ?_)
        clear hK KK b1 hHeldx27
        try simp only [List.getElem_toArray]
        try simp only [List.getElem_cons_succ]
        try simp only [List.getElem_cons_zero]
        try simp only [Act.put]
        try simp only [List.setIfInBounds_toArray]
        try simp only [List.set_cons_succ]
        try simp only [List.set_cons_zero]
        refine wpAnyH_ready (rs := [3, 5]) (by kernel_rfl) (by simp) ?_
        refine AllReadyH.cons rfl (fun KK hK => ?_) (AllReadyH.cons rfl (fun KK hK => ?_) AllReadyH.nil)
        · go_simp
          refine (made_is K' Y' Q' T' HN'.out u' l' _ (HU'.out.below HCW.out) (HE.out.below (c1.out.trans (HCW.out.mono c1.out.size))).1 k' a' b' x' v' HO'.out).mono ?_
          rintro e x30 ⟨rfl, b1⟩
          replace HCW := Lib.hid (HCW.out.trans (b1.mono HCW.out.size))
          replace HNB := Lib.hid (And.intro (HNB.out.1.below b1) (HNB.out.2.below b1))
          replace z4 := Lib.hid (z4.out.below b1)
          refine hK.out _ _ HNB.out (fun hHeldx30 => ?_)
          clear hK KK b1 hHeldx29
          try simp only [List.getElem_toArray]
          try simp only [List.getElem_cons_succ]
          try simp only [List.getElem_cons_zero]
          try simp only [Act.put]
          try simp only [List.setIfInBounds_toArray]
          try simp only [List.set_cons_succ]
          try simp only [List.set_cons_zero]
          refine wpAnyH_ready (rs := [5]) (by kernel_rfl) (by simp) ?_
          refine AllReadyH.cons rfl (fun KK hK => ?_) AllReadyH.nil
          · go_simp
            have b1 := (Below.refl x30.heap.size x30).alloc (Nat.le_refl _) (.cells #[.int .i64 0, .int .i64 0, .int .i64 0, .string ⟨#[]⟩, .string ⟨#[]⟩] 28)
            have z5 := Lib.hid (OpBox.new x30 0 0 0 ⟨#[]⟩ ⟨#[]⟩ 28)
            have zl5 := Lib.hid (World.block_lt_of_cell? _ _ HNB.out.2.1)
            have zn := Lib.hid z4.out.lt
            replace HCW := Lib.hid (HCW.out.trans (b1.mono HCW.out.size))
            replace HNB := Lib.hid (And.intro (HNB.out.1.below b1) (HNB.out.2.below b1))
            replace z4 := Lib.hid (z4.out.below b1)
            refine hK.out _ _ HNB.out (fun hHeldx31 => ?_)
            clear hK KK b1 hHeldx30
            try simp only [List.getElem_toArray]
            try simp only [List.getElem_cons_succ]
            try simp only [List.getElem_cons_zero]
            try simp only [Act.put]
            try simp only [List.setIfInBounds_toArray]
            try simp only [List.set_cons_succ]
            try simp only [List.set_cons_zero]
            generalize (x30.alloc (.cells #[.int .i64 0, .int .i64 0, .int .i64 0, .string ⟨#[]⟩, .string ⟨#[]⟩] 28)) = x31 at *
            obtain ⟨C32, hC⟩ : ∃ C32, x30.heap.size = C32 := ⟨_, rfl⟩
            rw [hC] at z5 zl5 zn
            rw [hC]
            clear hC
            have hne : C28 ≠ C32 := by have := zn.out; omega
            have hl4 : w.heap.size + 1 < C28 := zl4.out
            have hl5 : w.heap.size + 1 < C32 := zl5.out
            obtain ⟨⟨g0, g1, g2, g3, g4⟩, gf⟩ := z4.out
            have gf0 := gf 0
            have gf1 := gf 1
            have gf2 := gf 2
            have gf3 := gf 3
            have gf4 := gf 4
            have HNB2 := Lib.hid (And.intro (set5_num HNB.out.1 (C := C28) (by omega) (.int .i64 k) (.int .i64 a) (.int .i64 b) (.string x) (.string v)) (set5_num HNB.out.2 (C := C28) (by omega) (.int .i64 k) (.int .i64 a) (.int .i64 b) (.string x) (.string v)))
            have y4 := Lib.hid (set5_at z4.out k a b x v)
            have y5 := Lib.hid (set5_box z5.out (Ne.symm hne) (.int .i64 k) (.int .i64 a) (.int .i64 b) (.string x) (.string v))
            have HCX := Lib.hid (set5_below (c1.out.trans (HCW.out.mono c1.out.size)) (show w.heap.size ≤ C28 by omega) (.int .i64 k) (.int .i64 a) (.int .i64 b) (.string x) (.string v))
            clear gf zn zl4 zl5
            refine wpAnyH_ready (rs := [6]) (by kernel_rfl) (by simp) ?_
            refine AllReadyH.cons rfl (fun KK hK => ?_) AllReadyH.nil
            go_simp
            refine hK.out _ _ HNB2.out (fun hHeldA => ?_)
            clear hK KK g0 g1 g2 g3 g4 gf0 gf1 gf2 gf3 gf4 z4 z5 HNB
            try simp only [List.getElem_toArray]
            try simp only [List.getElem_cons_succ]
            try simp only [List.getElem_cons_zero]
            try simp only [Act.put]
            try simp only [List.setIfInBounds_toArray]
            try simp only [List.set_cons_succ]
            try simp only [List.set_cons_zero]
            obtain ⟨xe, hxe⟩ : ∃ xe, set5 x31 C28 (.int .i64 k) (.int .i64 a) (.int .i64 b) (.string x) (.string v) = xe := ⟨_, rfl⟩
            rw [hxe] at HNB2 y4 y5 HCX
            have hxe' : (((((x31.setCell ⟨C28, 0, none⟩ (.int .i64 k)).setCell ⟨C28, 1, none⟩ (.int .i64 a)).setCell ⟨C28, 2, none⟩ (.int .i64 b)).setCell ⟨C28, 3, none⟩ (.string x)).setCell ⟨C28, 4, none⟩ (.string v)) = xe := hxe
            rw [hxe']
            clear hxe hxe'
            obtain ⟨⟨g0, g1, g2, g3, g4⟩, gf⟩ := y5.out
            have gf0 := gf 0
            have gf1 := gf 1
            have gf2 := gf 2
            have gf3 := gf 3
            have gf4 := gf 4
            have HNB3 := Lib.hid (And.intro (set5_num HNB2.out.1 (C := C32) (by omega) (.int .i64 k') (.int .i64 a') (.int .i64 b') (.string x') (.string v')) (set5_num HNB2.out.2 (C := C32) (by omega) (.int .i64 k') (.int .i64 a') (.int .i64 b') (.string x') (.string v')))
            have r5 := Lib.hid (set5_at y5.out k' a' b' x' v')
            have r4 := Lib.hid (set5_box y4.out hne (.int .i64 k') (.int .i64 a') (.int .i64 b') (.string x') (.string v'))
            have HCY := Lib.hid (set5_below HCX.out (show w.heap.size ≤ C32 by omega) (.int .i64 k') (.int .i64 a') (.int .i64 b') (.string x') (.string v'))
            refine wpAnyH_ready (rs := [7]) (by kernel_rfl) (by simp) ?_
            refine AllReadyH.cons rfl (fun KK hK => ?_) AllReadyH.nil
            go_simp
            refine hK.out _ _ HNB3.out (fun hHeldB => ?_)
            clear hK KK g0 g1 g2 g3 g4 gf gf0 gf1 gf2 gf3 gf4
            try simp only [List.getElem_toArray]
            try simp only [List.getElem_cons_succ]
            try simp only [List.getElem_cons_zero]
            try simp only [Act.put]
            try simp only [List.setIfInBounds_toArray]
            try simp only [List.set_cons_succ]
            try simp only [List.set_cons_zero]
            refine wpAnyH_done (by kernel_rfl) ?_ _
            refine NoPanic.normal ?_
            go_wp2_with fail
            go_meet
            exact ⟨C28, C32, rfl, rfl, r4, r5, HCY⟩
        · go_simp
          have b1 := (Below.refl x29.heap.size x29).alloc (Nat.le_refl _) (.cells #[.int .i64 0, .int .i64 0, .int .i64 0, .string ⟨#[]⟩, .string ⟨#[]⟩] 28)
          have z5 := Lib.hid (OpBox.new x29 0 0 0 ⟨#[]⟩ ⟨#[]⟩ 28)
          have zl5 := Lib.hid (World.block_lt_of_cell? _ _ HNB.out.2.1)
          have zn := Lib.hid z4.out.lt
          replace HCW := Lib.hid (HCW.out.trans (b1.mono HCW.out.size))
          replace HNB := Lib.hid (And.intro (HNB.out.1.below b1) (HNB.out.2.below b1))
          replace z4 := Lib.hid (z4.out.below b1)
          refine hK.out _ _ HNB.out (fun hHeldx33 => ?_)
          clear hK KK b1 hHeldx29
          try simp only [List.getElem_toArray]
          try simp only [List.getElem_cons_succ]
          try simp only [List.getElem_cons_zero]
          try simp only [Act.put]
          try simp only [List.setIfInBounds_toArray]
          try simp only [List.set_cons_succ]
          try simp only [List.set_cons_zero]
          generalize (x29.alloc (.cells #[.int .i64 0, .int .i64 0, .int .i64 0, .string ⟨#[]⟩, .string ⟨#[]⟩] 28)) = x33 at *
          obtain ⟨C34, hC⟩ : ∃ C34, x29.heap.size = C34 := ⟨_, rfl⟩
          rw [hC] at z5 zl5 zn
          rw [hC]
          clear hC
          refine wpAnyH_ready (rs := [3]) (by kernel_rfl) (by simp) ?_
          refine AllReadyH.cons rfl (fun KK hK => ?_) AllReadyH.nil
          · go_simp
            refine (made_is K' Y' Q' T' HN'.out u' l' _ (HU'.out.below HCW.out) (HE.out.below (c1.out.trans (HCW.out.mono c1.out.size))).1 k' a' b' x' v' HO'.out).mono ?_
            rintro e x35 ⟨rfl, b1⟩
            replace HCW := Lib.hid (HCW.out.trans (b1.mono HCW.out.size))
            replace HNB := Lib.hid (And.intro (HNB.out.1.below b1) (HNB.out.2.below b1))
            replace z4 := Lib.hid (z4.out.below b1)
            replace z5 := Lib.hid (z5.out.below b1)
            refine hK.out _ _ HNB.out (fun hHeldx35 => ?_)
            clear hK KK b1 hHeldx33
            try simp only [List.getElem_toArray]
            try simp only [List.getElem_cons_succ]
            try simp only [List.getElem_cons_zero]
            try simp only [Act.put]
            try simp only [List.setIfInBounds_toArray]
            try simp only [List.set_cons_succ]
            try simp only [List.set_cons_zero]
            have hne : C28 ≠ C34 := by have := zn.out; omega
            have hl4 : w.heap.size + 1 < C28 := zl4.out
            have hl5 : w.heap.size + 1 < C34 := zl5.out
            obtain ⟨⟨g0, g1, g2, g3, g4⟩, gf⟩ := z4.out
            have gf0 := gf 0
            have gf1 := gf 1
            have gf2 := gf 2
            have gf3 := gf 3
            have gf4 := gf 4
            have HNB2 := Lib.hid (And.intro (set5_num HNB.out.1 (C := C28) (by omega) (.int .i64 k) (.int .i64 a) (.int .i64 b) (.string x) (.string v)) (set5_num HNB.out.2 (C := C28) (by omega) (.int .i64 k) (.int .i64 a) (.int .i64 b) (.string x) (.string v)))
            have y4 := Lib.hid (set5_at z4.out k a b x v)
            have y5 := Lib.hid (set5_box z5.out (Ne.symm hne) (.int .i64 k) (.int .i64 a) (.int .i64 b) (.string x) (.string v))
            have HCX := Lib.hid (set5_below (c1.out.trans (HCW.out.mono c1.out.size)) (show w.heap.size ≤ C28 by omega) (.int .i64 k) (.int .i64 a) (.int .i64 b) (.string x) (.string v))
            clear gf zn zl4 zl5
            refine wpAnyH_ready (rs := [6]) (by kernel_rfl) (by simp) ?_
            refine AllReadyH.cons rfl (fun KK hK => ?_) AllReadyH.nil
            go_simp
            refine hK.out _ _ HNB2.out (fun hHeldA => ?_)
            clear hK KK g0 g1 g2 g3 g4 gf0 gf1 gf2 gf3 gf4 z4 z5 HNB
            try simp only [List.getElem_toArray]
            try simp only [List.getElem_cons_succ]
            try simp only [List.getElem_cons_zero]
            try simp only [Act.put]
            try simp only [List.setIfInBounds_toArray]
            try simp only [List.set_cons_succ]
            try simp only [List.set_cons_zero]
            obtain ⟨xe, hxe⟩ : ∃ xe, set5 x35 C28 (.int .i64 k) (.int .i64 a) (.int .i64 b) (.string x) (.string v) = xe := ⟨_, rfl⟩
            rw [hxe] at HNB2 y4 y5 HCX
            have hxe' : (((((x35.setCell ⟨C28, 0, none⟩ (.int .i64 k)).setCell ⟨C28, 1, none⟩ (.int .i64 a)).setCell ⟨C28, 2, none⟩ (.int .i64 b)).setCell ⟨C28, 3, none⟩ (.string x)).setCell ⟨C28, 4, none⟩ (.string v)) = xe := hxe
            rw [hxe']
            clear hxe hxe'
            obtain ⟨⟨g0, g1, g2, g3, g4⟩, gf⟩ := y5.out
            have gf0 := gf 0
            have gf1 := gf 1
            have gf2 := gf 2
            have gf3 := gf 3
            have gf4 := gf 4
            have HNB3 := Lib.hid (And.intro (set5_num HNB2.out.1 (C := C34) (by omega) (.int .i64 k') (.int .i64 a') (.int .i64 b') (.string x') (.string v')) (set5_num HNB2.out.2 (C := C34) (by omega) (.int .i64 k') (.int .i64 a') (.int .i64 b') (.string x') (.string v')))
            have r5 := Lib.hid (set5_at y5.out k' a' b' x' v')
            have r4 := Lib.hid (set5_box y4.out hne (.int .i64 k') (.int .i64 a') (.int .i64 b') (.string x') (.string v'))
            have HCY := Lib.hid (set5_below HCX.out (show w.heap.size ≤ C34 by omega) (.int .i64 k') (.int .i64 a') (.int .i64 b') (.string x') (.string v'))
            refine wpAnyH_ready (rs := [7]) (by kernel_rfl) (by simp) ?_
            refine AllReadyH.cons rfl (fun KK hK => ?_) AllReadyH.nil
            go_simp
            refine hK.out _ _ HNB3.out (fun hHeldB => ?_)
            clear hK KK g0 g1 g2 g3 g4 gf gf0 gf1 gf2 gf3 gf4
            try simp only [List.getElem_toArray]
            try simp only [List.getElem_cons_succ]
            try simp only [List.getElem_cons_zero]
            try simp only [Act.put]
            try simp only [List.setIfInBounds_toArray]
            try simp only [List.set_cons_succ]
            try simp only [List.set_cons_zero]
            refine wpAnyH_done (by kernel_rfl) ?_ _
            refine NoPanic.normal ?_
            go_wp2_with fail
            go_meet
            exact ⟨C28, C34, rfl, rfl, r4, r5, HCY⟩
      · go_simp
        have b1 := (Below.refl x27.heap.size x27).alloc (Nat.le_refl _) (.cells #[.int .i64 0, .int .i64 0, .int .i64 0, .string ⟨#[]⟩, .string ⟨#[]⟩] 28)
        have z5 := Lib.hid (OpBox.new x27 0 0 0 ⟨#[]⟩ ⟨#[]⟩ 28)
        have zl5 := Lib.hid (World.block_lt_of_cell? _ _ HNB.out.2.1)
        have zn := Lib.hid z4.out.lt
        replace HCW := Lib.hid (HCW.out.trans (b1.mono HCW.out.size))
        replace HNB := Lib.hid (And.intro (HNB.out.1.below b1) (HNB.out.2.below b1))
        replace z4 := Lib.hid (z4.out.below b1)
        refine hK.out _ _ HNB.out (fun hHeldx36 => ?_)
        clear hK KK b1 hHeldx27
        try simp only [List.getElem_toArray]
        try simp only [List.getElem_cons_succ]
        try simp only [List.getElem_cons_zero]
        try simp only [Act.put]
        try simp only [List.setIfInBounds_toArray]
        try simp only [List.set_cons_succ]
        try simp only [List.set_cons_zero]
        generalize (x27.alloc (.cells #[.int .i64 0, .int .i64 0, .int .i64 0, .string ⟨#[]⟩, .string ⟨#[]⟩] 28)) = x36 at *
        obtain ⟨C37, hC⟩ : ∃ C37, x27.heap.size = C37 := ⟨_, rfl⟩
        rw [hC] at z5 zl5 zn
        rw [hC]
        clear hC
        refine wpAnyH_ready (rs := [1]) (by kernel_rfl) (by simp) ?_
        refine AllReadyH.cons rfl (fun KK hK => ?_) AllReadyH.nil
        · go_simp
          refine (made_is K Y Q T HN.out u l _ (HU.out.below HCW.out) (HE.out.below (c1.out.trans (HCW.out.mono c1.out.size))).1 k a b x v HO.out).mono ?_
          rintro e x38 ⟨rfl, b1⟩
          replace HCW := Lib.hid (HCW.out.trans (b1.mono HCW.out.size))
          replace HNB := Lib.hid (And.intro (HNB.out.1.below b1) (HNB.out.2.below b1))
          replace z4 := Lib.hid (z4.out.below b1)
          replace z5 := Lib.hid (z5.out.below b1)
          refine hK.out _ _ HNB.out (fun hHeldx38 => ?_)
          clear hK KK b1 hHeldx36
          try simp only [List.getElem_toArray]
          try simp only [List.getElem_cons_succ]
          try simp only [List.getElem_cons_zero]
          try simp only [Act.put]
          try simp only [List.setIfInBounds_toArray]
          try simp only [List.set_cons_succ]
          try simp only [List.set_cons_zero]
          refine wpAnyH_ready (rs := [3]) (by kernel_rfl) (by simp) ?_
          refine AllReadyH.cons rfl (fun KK hK => ?_) AllReadyH.nil
          · go_simp
            refine (made_is K' Y' Q' T' HN'.out u' l' _ (HU'.out.below HCW.out) (HE.out.below (c1.out.trans (HCW.out.mono c1.out.size))).1 k' a' b' x' v' HO'.out).mono ?_
            rintro e x39 ⟨rfl, b1⟩
            replace HCW := Lib.hid (HCW.out.trans (b1.mono HCW.out.size))
            replace HNB := Lib.hid (And.intro (HNB.out.1.below b1) (HNB.out.2.below b1))
            replace z4 := Lib.hid (z4.out.below b1)
            replace z5 := Lib.hid (z5.out.below b1)
            refine hK.out _ _ HNB.out (fun hHeldx39 => ?_)
            clear hK KK b1 hHeldx38
            try simp only [List.getElem_toArray]
            try simp only [List.getElem_cons_succ]
            try simp only [List.getElem_cons_zero]
            try simp only [Act.put]
            try simp only [List.setIfInBounds_toArray]
            try simp only [List.set_cons_succ]
            try simp only [List.set_cons_zero]
            have hne : C28 ≠ C37 := by have := zn.out; omega
            have hl4 : w.heap.size + 1 < C28 := zl4.out
            have hl5 : w.heap.size + 1 < C37 := zl5.out
            obtain ⟨⟨g0, g1, g2, g3, g4⟩, gf⟩ := z4.out
            have gf0 := gf 0
            have gf1 := gf 1
            have gf2 := gf 2
            have gf3 := gf 3
            have gf4 := gf 4
            have HNB2 := Lib.hid (And.intro (set5_num HNB.out.1 (C := C28) (by omega) (.int .i64 k) (.int .i64 a) (.int .i64 b) (.string x) (.string v)) (set5_num HNB.out.2 (C := C28) (by omega) (.int .i64 k) (.int .i64 a) (.int .i64 b) (.string x) (.string v)))
            have y4 := Lib.hid (set5_at z4.out k a b x v)
            have y5 := Lib.hid (set5_box z5.out (Ne.symm hne) (.int .i64 k) (.int .i64 a) (.int .i64 b) (.string x) (.string v))
            have HCX := Lib.hid (set5_below (c1.out.trans (HCW.out.mono c1.out.size)) (show w.heap.size ≤ C28 by omega) (.int .i64 k) (.int .i64 a) (.int .i64 b) (.string x) (.string v))
            clear gf zn zl4 zl5
            refine wpAnyH_ready (rs := [6]) (by kernel_rfl) (by simp) ?_
            refine AllReadyH.cons rfl (fun KK hK => ?_) AllReadyH.nil
            go_simp
            refine hK.out _ _ HNB2.out (fun hHeldA => ?_)
            clear hK KK g0 g1 g2 g3 g4 gf0 gf1 gf2 gf3 gf4 z4 z5 HNB
            try simp only [List.getElem_toArray]
            try simp only [List.getElem_cons_succ]
            try simp only [List.getElem_cons_zero]
            try simp only [Act.put]
            try simp only [List.setIfInBounds_toArray]
            try simp only [List.set_cons_succ]
            try simp only [List.set_cons_zero]
            obtain ⟨xe, hxe⟩ : ∃ xe, set5 x39 C28 (.int .i64 k) (.int .i64 a) (.int .i64 b) (.string x) (.string v) = xe := ⟨_, rfl⟩
            rw [hxe] at HNB2 y4 y5 HCX
            have hxe' : (((((x39.setCell ⟨C28, 0, none⟩ (.int .i64 k)).setCell ⟨C28, 1, none⟩ (.int .i64 a)).setCell ⟨C28, 2, none⟩ (.int .i64 b)).setCell ⟨C28, 3, none⟩ (.string x)).setCell ⟨C28, 4, none⟩ (.string v)) = xe := hxe
            rw [hxe']
            clear hxe hxe'
            obtain ⟨⟨g0, g1, g2, g3, g4⟩, gf⟩ := y5.out
            have gf0 := gf 0
            have gf1 := gf 1
            have gf2 := gf 2
            have gf3 := gf 3
            have gf4 := gf 4
            have HNB3 := Lib.hid (And.intro (set5_num HNB2.out.1 (C := C37) (by omega) (.int .i64 k') (.int .i64 a') (.int .i64 b') (.string x') (.string v')) (set5_num HNB2.out.2 (C := C37) (by omega) (.int .i64 k') (.int .i64 a') (.int .i64 b') (.string x') (.string v')))
            have r5 := Lib.hid (set5_at y5.out k' a' b' x' v')
            have r4 := Lib.hid (set5_box y4.out hne (.int .i64 k') (.int .i64 a') (.int .i64 b') (.string x') (.string v'))
            have HCY := Lib.hid (set5_below HCX.out (show w.heap.size ≤ C37 by omega) (.int .i64 k') (.int .i64 a') (.int .i64 b') (.string x') (.string v'))
            refine wpAnyH_ready (rs := [7]) (by kernel_rfl) (by simp) ?_
            refine AllReadyH.cons rfl (fun KK hK => ?_) AllReadyH.nil
            go_simp
            refine hK.out _ _ HNB3.out (fun hHeldB => ?_)
            clear hK KK g0 g1 g2 g3 g4 gf gf0 gf1 gf2 gf3 gf4
            try simp only [List.getElem_toArray]
            try simp only [List.getElem_cons_succ]
            try simp only [List.getElem_cons_zero]
            try simp only [Act.put]
            try simp only [List.setIfInBounds_toArray]
            try simp only [List.set_cons_succ]
            try simp only [List.set_cons_zero]
            refine wpAnyH_done (by kernel_rfl) ?_ _
            refine NoPanic.normal ?_
            go_wp2_with fail
            go_meet
            exact ⟨C28, C37, rfl, rfl, r4, r5, HCY⟩
    · go_simp
      have b1 := (Below.refl xw.heap.size xw).alloc (Nat.le_refl _) (.cells #[.int .i64 0, .int .i64 0, .int .i64 0, .string ⟨#[]⟩, .string ⟨#[]⟩] 28)
      have z5 := Lib.hid (OpBox.new xw 0 0 0 ⟨#[]⟩ ⟨#[]⟩ 28)
      have zl5 := Lib.hid (World.block_lt_of_cell? _ _ HNB.out.2.1)
      replace HCW := Lib.hid (HCW.out.trans (b1.mono HCW.out.size))
      replace HNB := Lib.hid (And.intro (HNB.out.1.below b1) (HNB.out.2.below b1))
      refine hK.out _ _ HNB.out (fun hHeldx40 => ?_)
      clear hK KK b1 hHeld
      try simp only [List.getElem_toArray]
      try simp only [List.getElem_cons_succ]
      try simp only [List.getElem_cons_zero]
      try simp only [Act.put]
      try simp only [List.setIfInBounds_toArray]
      try simp only [List.set_cons_succ]
      try simp only [List.set_cons_zero]
      generalize (xw.alloc (.cells #[.int .i64 0, .int .i64 0, .int .i64 0, .string ⟨#[]⟩, .string ⟨#[]⟩] 28)) = x40 at *
      obtain ⟨C41, hC⟩ : ∃ C41, xw.heap.size = C41 := ⟨_, rfl⟩
      rw [hC] at z5 zl5
      rw [hC]
      clear hC
      refine wpAnyH_ready (rs := [1, 4]) (by kernel_rfl) (by simp) ?_
      refine AllReadyH.cons rfl (fun KK hK => ?_) (AllReadyH.cons rfl (fun KK hK => ?_) AllReadyH.nil)
      · go_simp
        refine (made_is K Y Q T HN.out u l _ (HU.out.below HCW.out) (HE.out.below (c1.out.trans (HCW.out.mono c1.out.size))).1 k a b x v HO.out).mono ?_
        rintro e x42 ⟨rfl, b1⟩
        replace HCW := Lib.hid (HCW.out.trans (b1.mono HCW.out.size))
        replace HNB := Lib.hid (And.intro (HNB.out.1.below b1) (HNB.out.2.below b1))
        replace z5 := Lib.hid (z5.out.below b1)
        refine hK.out _ _ HNB.out (fun hHeldx42 => ?_)
        clear hK KK b1 hHeldx40
        try simp only [List.getElem_toArray]
        try simp only [List.getElem_cons_succ]
        try simp only [List.getElem_cons_zero]
        try simp only [Act.put]
        try simp only [List.setIfInBounds_toArray]
        try simp only [List.set_cons_succ]
        try simp only [List.set_cons_zero]
        refine wpAnyH_ready (rs := [3, 4]) (by kernel_rfl) (by simp) ?_
        refine AllReadyH.cons rfl (fun KK hK => ?_) (AllReadyH.cons rfl (fun KK hK => ?_) AllReadyH.nil)
        · go_simp
          refine (made_is K' Y' Q' T' HN'.out u' l' _ (HU'.out.below HCW.out) (HE.out.below (c1.out.trans (HCW.out.mono c1.out.size))).1 k' a' b' x' v' HO'.out).mono ?_
          rintro e x43 ⟨rfl, b1⟩
          replace HCW := Lib.hid (HCW.out.trans (b1.mono HCW.out.size))
          replace HNB := Lib.hid (And.intro (HNB.out.1.below b1) (HNB.out.2.below b1))
          replace z5 := Lib.hid (z5.out.below b1)
          refine hK.out _ _ HNB.out (fun hHeldx43 => ?_)
          clear hK KK b1 hHeldx42
          try simp only [List.getElem_toArray]
          try simp only [List.getElem_cons_succ]
          try simp only [List.getElem_cons_zero]
          try simp only [Act.put]
          try simp only [List.setIfInBounds_toArray]
          try simp only [List.set_cons_succ]
          try simp only [List.set_cons_zero]
          refine wpAnyH_ready (rs := [4]) (by kernel_rfl) (by simp) ?_
          refine AllReadyH.cons rfl (fun KK hK => ?_) AllReadyH.nil
          · go_simp
            have b1 := (Below.refl x43.heap.size x43).alloc (Nat.le_refl _) (.cells #[.int .i64 0, .int .i64 0, .int .i64 0, .string ⟨#[]⟩, .string ⟨#[]⟩] 28)
            have z4 := Lib.hid (OpBox.new x43 0 0 0 ⟨#[]⟩ ⟨#[]⟩ 28)
            have zl4 := Lib.hid (World.block_lt_of_cell? _ _ HNB.out.2.1)
            have zn := Lib.hid z5.out.lt
            replace HCW := Lib.hid (HCW.out.trans (b1.mono HCW.out.size))
            replace HNB := Lib.hid (And.intro (HNB.out.1.below b1) (HNB.out.2.below b1))
            replace z5 := Lib.hid (z5.out.below b1)
            refine hK.out _ _ HNB.out (fun hHeldx44 => ?_)
            clear hK KK b1 hHeldx43
            try simp only [List.getElem_toArray]
            try simp only [List.getElem_cons_succ]
            try simp only [List.getElem_cons_zero]
            try simp only [Act.put]
            try simp only [List.setIfInBounds_toArray]
            try simp only [List.set_cons_succ]
            try simp only [List.set_cons_zero]
            generalize (x43.alloc (.cells #[.int .i64 0, .int .i64 0, .int .i64 0, .string ⟨#[]⟩, .string ⟨#[]⟩] 28)) = x44 at *
            obtain ⟨C45, hC⟩ : ∃ C45, x43.heap.size = C45 := ⟨_, rfl⟩
            rw [hC] at z4 zl4 zn
            rw [hC]
            clear hC
            have hne : C45 ≠ C41 := by have := zn.out; omega
            have hl4 : w.heap.size + 1 < C45 := zl4.out
            have hl5 : w.heap.size + 1 < C41 := zl5.out
            obtain ⟨⟨g0, g1, g2, g3, g4⟩, gf⟩ := z4.out
            have gf0 := gf 0
            have gf1 := gf 1
            have gf2 := gf 2
            have gf3 := gf 3
            have gf4 := gf 4
            have HNB2 := Lib.hid (And.intro (set5_num HNB.out.1 (C := C45) (by omega) (.int .i64 k) (.int .i64 a) (.int .i64 b) (.string x) (.string v)) (set5_num HNB.out.2 (C := C45) (by omega) (.int .i64 k) (.int .i64 a) (.int .i64 b) (.string x) (.string v)))
            have y4 := Lib.hid (set5_at z4.out k a b x v)
            have y5 := Lib.hid (set5_box z5.out (Ne.symm hne) (.int .i64 k) (.int .i64 a) (.int .i64 b) (.string x) (.string v))
            have HCX := Lib.hid (set5_below (c1.out.trans (HCW.out.mono c1.out.size)) (show w.heap.size ≤ C45 by omega) (.int .i64 k) (.int .i64 a) (.int .i64 b) (.string x) (.string v))
            clear gf zn zl4 zl5
            refine wpAnyH_ready (rs := [6]) (by kernel_rfl) (by simp) ?_
            refine AllReadyH.cons rfl (fun KK hK => ?_) AllReadyH.nil
            go_simp
            refine hK.out _ _ HNB2.out (fun hHeldA => ?_)
            clear hK KK g0 g1 g2 g3 g4 gf0 gf1 gf2 gf3 gf4 z4 z5 HNB
            try simp only [List.getElem_toArray]
            try simp only [List.getElem_cons_succ]
            try simp only [List.getElem_cons_zero]
            try simp only [Act.put]
            try simp only [List.setIfInBounds_toArray]
            try simp only [List.set_cons_succ]
            try simp only [List.set_cons_zero]
            obtain ⟨xe, hxe⟩ : ∃ xe, set5 x44 C45 (.int .i64 k) (.int .i64 a) (.int .i64 b) (.string x) (.string v) = xe := ⟨_, rfl⟩
            rw [hxe] at HNB2 y4 y5 HCX
            have hxe' : (((((x44.setCell ⟨C45, 0, none⟩ (.int .i64 k)).setCell ⟨C45, 1, none⟩ (.int .i64 a)).setCell ⟨C45, 2, none⟩ (.int .i64 b)).setCell ⟨C45, 3, none⟩ (.string x)).setCell ⟨C45, 4, none⟩ (.string v)) = xe := hxe
            rw [hxe']
            clear hxe hxe'
            obtain ⟨⟨g0, g1, g2, g3, g4⟩, gf⟩ := y5.out
            have gf0 := gf 0
            have gf1 := gf 1
            have gf2 := gf 2
            have gf3 := gf 3
            have gf4 := gf 4
            have HNB3 := Lib.hid (And.intro (set5_num HNB2.out.1 (C := C41) (by omega) (.int .i64 k') (.int .i64 a') (.int .i64 b') (.string x') (.string v')) (set5_num HNB2.out.2 (C := C41) (by omega) (.int .i64 k') (.int .i64 a') (.int .i64 b') (.string x') (.string v')))
            have r5 := Lib.hid (set5_at y5.out k' a' b' x' v')
            have r4 := Lib.hid (set5_box y4.out hne (.int .i64 k') (.int .i64 a') (.int .i64 b') (.string x') (.string v'))
            have HCY := Lib.hid (set5_below HCX.out (show w.heap.size ≤ C41 by omega) (.int .i64 k') (.int .i64 a') (.int .i64 b') (.string x') (.string v'))
            refine wpAnyH_ready (rs := [7]) (by kernel_rfl) (by simp) ?_
            refine AllReadyH.cons rfl (fun KK hK => ?_) AllReadyH.nil
            go_simp
            refine hK.out _ _ HNB3.out (fun hHeldB => ?_)
            clear hK KK g0 g1 g2 g3 g4 gf gf0 gf1 gf2 gf3 gf4
            try simp only [List.getElem_toArray]
            try simp only [List.getElem_cons_succ]
            try simp only [List.getElem_cons_zero]
            try simp only [Act.put]
            try simp only [List.setIfInBounds_toArray]
            try simp only [List.set_cons_succ]
            try simp only [List.set_cons_zero]
            refine wpAnyH_done (by kernel_rfl) ?_ _
            refine NoPanic.normal ?_
            go_wp2_with fail
            go_meet
            exact ⟨C45, C41, rfl, rfl, r4, r5, HCY⟩
        · go_simp
          have b1 := (Below.refl x42.heap.size x42).alloc (Nat.le_refl _) (.cells #[.int .i64 0, .int .i64 0, .int .i64 0, .string ⟨#[]⟩, .string ⟨#[]⟩] 28)
          have z4 := Lib.hid (OpBox.new x42 0 0 0 ⟨#[]⟩ ⟨#[]⟩ 28)
          have zl4 := Lib.hid (World.block_lt_of_cell? _ _ HNB.out.2.1)
          have zn := Lib.hid z5.out.lt
          replace HCW := Lib.hid (HCW.out.trans (b1.mono HCW.out.size))
          replace HNB := Lib.hid (And.intro (HNB.out.1.below b1) (HNB.out.2.below b1))
          replace z5 := Lib.hid (z5.out.below b1)
          refine hK.out _ _ HNB.out (fun hHeldx46 => ?_)
          clear hK KK b1 hHeldx42
          try simp only [List.getElem_toArray]
          try simp only [List.getElem_cons_succ]
          try simp only [List.getElem_cons_zero]
          try simp only [Act.put]
          try simp only [List.setIfInBounds_toArray]
          try simp only [List.set_cons_succ]
          try simp only [List.set_cons_zero]
          generalize (x42.alloc (.cells #[.int .i64 0, .int .i64 0, .int .i64 0, .string ⟨#[]⟩, .string ⟨#[]⟩] 28)) = x46 at *
          obtain ⟨C47, hC⟩ : ∃ C47, x42.heap.size = C47 := ⟨_, rfl⟩
          rw [hC] at z4 zl4 zn
          rw [hC]
          clear hC
          refine wpAnyH_ready (rs := [3]) (by kernel_rfl) (by simp) ?_
          refine AllReadyH.cons rfl (fun KK hK => ?_) AllReadyH.nil
          · go_simp
            refine (made_is K' Y' Q' T' HN'.out u' l' _ (HU'.out.below HCW.out) (HE.out.below (c1.out.trans (HCW.out.mono c1.out.size))).1 k' a' b' x' v' HO'.out).mono ?_
            rintro e x48 ⟨rfl, b1⟩
            replace HCW := Lib.hid (HCW.out.trans (b1.mono HCW.out.size))
            replace HNB := Lib.hid (And.intro (HNB.out.1.below b1) (HNB.out.2.below b1))
            replace z5 := Lib.hid (z5.out.below b1)
            replace z4 := Lib.hid (z4.out.below b1)
            refine hK.out _ _ HNB.out (fun hHeldx48 => ?_)
            clear hK KK b1 hHeldx46
            try simp only [List.getElem_toArray]
            try simp only [List.getElem_cons_succ]
            try simp only [List.getElem_cons_zero]
            try simp only [Act.put]
            try simp only [List.setIfInBounds_toArray]
            try simp only [List.set_cons_succ]
            try simp only [List.set_cons_zero]
            have hne : C47 ≠ C41 := by have := zn.out; omega
            have hl4 : w.heap.size + 1 < C47 := zl4.out
            have hl5 : w.heap.size + 1 < C41 := zl5.out
            obtain ⟨⟨g0, g1, g2, g3, g4⟩, gf⟩ := z4.out
            have gf0 := gf 0
            have gf1 := gf 1
            have gf2 := gf 2
            have gf3 := gf 3
            have gf4 := gf 4
            have HNB2 := Lib.hid (And.intro (set5_num HNB.out.1 (C := C47) (by omega) (.int .i64 k) (.int .i64 a) (.int .i64 b) (.string x) (.string v)) (set5_num HNB.out.2 (C := C47) (by omega) (.int .i64 k) (.int .i64 a) (.int .i64 b) (.string x) (.string v)))
            have y4 := Lib.hid (set5_at z4.out k a b x v)
            have y5 := Lib.hid (set5_box z5.out (Ne.symm hne) (.int .i64 k) (.int .i64 a) (.int .i64 b) (.string x) (.string v))
            have HCX := Lib.hid (set5_below (c1.out.trans (HCW.out.mono c1.out.size)) (show w.heap.size ≤ C47 by omega) (.int .i64 k) (.int .i64 a) (.int .i64 b) (.string x) (.string v))
            clear gf zn zl4 zl5
            refine wpAnyH_ready (rs := [6]) (by kernel_rfl) (by simp) ?_
            refine AllReadyH.cons rfl (fun KK hK => ?_) AllReadyH.nil
            go_simp
            refine hK.out _ _ HNB2.out (fun hHeldA => ?_)
            clear hK KK g0 g1 g2 g3 g4 gf0 gf1 gf2 gf3 gf4 z4 z5 HNB
            try simp only [List.getElem_toArray]
            try simp only [List.getElem_cons_succ]
            try simp only [List.getElem_cons_zero]
            try simp only [Act.put]
            try simp only [List.setIfInBounds_toArray]
            try simp only [List.set_cons_succ]
            try simp only [List.set_cons_zero]
            obtain ⟨xe, hxe⟩ : ∃ xe, set5 x48 C47 (.int .i64 k) (.int .i64 a) (.int .i64 b) (.string x) (.string v) = xe := ⟨_, rfl⟩
            rw [hxe] at HNB2 y4 y5 HCX
            have hxe' : (((((x48.setCell ⟨C47, 0, none⟩ (.int .i64 k)).setCell ⟨C47, 1, none⟩ (.int .i64 a)).setCell ⟨C47, 2, none⟩ (.int .i64 b)).setCell ⟨C47, 3, none⟩ (.string x)).setCell ⟨C47, 4, none⟩ (.string v)) = xe := hxe
            rw [hxe']
            clear hxe hxe'
            obtain ⟨⟨g0, g1, g2, g3, g4⟩, gf⟩ := y5.out
            have gf0 := gf 0
            have gf1 := gf 1
            have gf2 := gf 2
            have gf3 := gf 3
            have gf4 := gf 4
            have HNB3 := Lib.hid (And.intro (set5_num HNB2.out.1 (C := C41) (by omega) (.int .i64 k') (.int .i64 a') (.int .i64 b') (.string x') (.string v')) (set5_num HNB2.out.2 (C := C41) (by omega) (.int .i64 k') (.int .i64 a') (.int .i64 b') (.string x') (.string v')))
            have r5 := Lib.hid (set5_at y5.out k' a' b' x' v')
            have r4 := Lib.hid (set5_box y4.out hne (.int .i64 k') (.int .i64 a') (.int .i64 b') (.string x') (.string v'))
            have HCY := Lib.hid (set5_below HCX.out (show w.heap.size ≤ C41 by omega) (.int .i64 k') (.int .i64 a') (.int .i64 b') (.string x') (.string v'))
            refine wpAnyH_ready (rs := [7]) (by kernel_rfl) (by simp) ?_
            refine AllReadyH.cons rfl (fun KK hK => ?_) AllReadyH.nil
            go_simp
            refine hK.out _ _ HNB3.out (fun hHeldB => ?_)
            clear hK KK g0 g1 g2 g3 g4 gf gf0 gf1 gf2 gf3 gf4
            try simp only [List.getElem_toArray]
            try simp only [List.getElem_cons_succ]
            try simp only [List.getElem_cons_zero]
            try simp only [Act.put]
            try simp only [List.setIfInBounds_toArray]
            try simp only [List.set_cons_succ]
            try simp only [List.set_cons_zero]
            refine wpAnyH_done (by kernel_rfl) ?_ _
            refine NoPanic.normal ?_
            go_wp2_with fail
            go_meet
            exact ⟨C47, C41, rfl, rfl, r4, r5, HCY⟩
      · go_simp
        have b1 := (Below.refl x40.heap.size x40).alloc (Nat.le_refl _) (.cells #[.int .i64 0, .int .i64 0, .int .i64 0, .string ⟨#[]⟩, .string ⟨#[]⟩] 28)
        have z4 := Lib.hid (OpBox.new x40 0 0 0 ⟨#[]⟩ ⟨#[]⟩ 28)
        have zl4 := Lib.hid (World.block_lt_of_cell? _ _ HNB.out.2.1)
        have zn := Lib.hid z5.out.lt
        replace HCW := Lib.hid (HCW.out.trans (b1.mono HCW.out.size))
        replace HNB := Lib.hid (And.intro (HNB.out.1.below b1) (HNB.out.2.below b1))
        replace z5 := Lib.hid (z5.out.below b1)
        refine hK.out _ _ HNB.out (fun hHeldx49 => ?_)
        clear hK KK b1 hHeldx40
        try simp only [List.getElem_toArray]
        try simp only [List.getElem_cons_succ]
        try simp only [List.getElem_cons_zero]
        try simp only [Act.put]
        try simp only [List.setIfInBounds_toArray]
        try simp only [List.set_cons_succ]
        try simp only [List.set_cons_zero]
        generalize (x40.alloc (.cells #[.int .i64 0, .int .i64 0, .int .i64 0, .string ⟨#[]⟩, .string ⟨#[]⟩] 28)) = x49 at *
        obtain ⟨C50, hC⟩ : ∃ C50, x40.heap.size = C50 := ⟨_, rfl⟩
        rw [hC] at z4 zl4 zn
        rw [hC]
        clear hC
        refine wpAnyH_ready (rs := [1]) (by kernel_rfl) (by simp) ?_
        refine AllReadyH.cons rfl (fun KK hK => ?_) AllReadyH.nil
        · go_simp
          refine (made_is K Y Q T HN.out u l _ (HU.out.below HCW.out) (HE.out.below (c1.out.trans (HCW.out.mono c1.out.size))).1 k a b x v HO.out).mono ?_
          rintro e x51 ⟨rfl, b1⟩
          replace HCW := Lib.hid (HCW.out.trans (b1.mono HCW.out.size))
          replace HNB := Lib.hid (And.intro (HNB.out.1.below b1) (HNB.out.2.below b1))
          replace z5 := Lib.hid (z5.out.below b1)
          replace z4 := Lib.hid (z4.out.below b1)
          refine hK.out _ _ HNB.out (fun hHeldx51 => ?_)
          clear hK KK b1 hHeldx49
          try simp only [List.getElem_toArray]
          try simp only [List.getElem_cons_succ]
          try simp only [List.getElem_cons_zero]
          try simp only [Act.put]
          try simp only [List.setIfInBounds_toArray]
          try simp only [List.set_cons_succ]
          try simp only [List.set_cons_zero]
          refine wpAnyH_ready (rs := [3]) (by kernel_rfl) (by simp) ?_
          refine AllReadyH.cons rfl (fun KK hK => ?_) AllReadyH.nil
          · go_simp
            refine (made_is K' Y' Q' T' HN'.out u' l' _ (HU'.out.below HCW.out) (HE.out.below (c1.out.trans (HCW.out.mono c1.out.size))).1 k' a' b' x' v' HO'.out).mono ?_
            rintro e x52 ⟨rfl, b1⟩
            replace HCW := Lib.hid (HCW.out.trans (b1.mono HCW.out.size))
            replace HNB := Lib.hid (And.intro (HNB.out.1.below b1) (HNB.out.2.below b1))
            replace z5 := Lib.hid (z5.out.below b1)
            replace z4 := Lib.hid (z4.out.below b1)
            refine hK.out _ _ HNB.out (fun hHeldx52 => ?_)
            clear hK KK b1 hHeldx51
            try simp only [List.getElem_toArray]
            try simp only [List.getElem_cons_succ]
            try simp only [List.getElem_cons_zero]
            try simp only [Act.put]
            try simp only [List.setIfInBounds_toArray]
            try simp only [List.set_cons_succ]
            try simp only [List.set_cons_zero]
            have hne : C50 ≠ C41 := by have := zn.out; omega
            have hl4 : w.heap.size + 1 < C50 := zl4.out
            have hl5 : w.heap.size + 1 < C41 := zl5.out
            obtain ⟨⟨g0, g1, g2, g3, g4⟩, gf⟩ := z4.out
            have gf0 := gf 0
            have gf1 := gf 1
            have gf2 := gf 2
            have gf3 := gf 3
            have gf4 := gf 4
            have HNB2 := Lib.hid (And.intro (set5_num HNB.out.1 (C := C50) (by omega) (.int .i64 k) (.int .i64 a) (.int .i64 b) (.string x) (.string v)) (set5_num HNB.out.2 (C := C50) (by omega) (.int .i64 k) (.int .i64 a) (.int .i64 b) (.string x) (.string v)))
            have y4 := Lib.hid (set5_at z4.out k a b x v)
            have y5 := Lib.hid (set5_box z5.out (Ne.symm hne) (.int .i64 k) (.int .i64 a) (.int .i64 b) (.string x) (.string v))
            have HCX := Lib.hid (set5_below (c1.out.trans (HCW.out.mono c1.out.size)) (show w.heap.size ≤ C50 by omega) (.int .i64 k) (.int .i64 a) (.int .i64 b) (.string x) (.string v))
            clear gf zn zl4 zl5
            refine wpAnyH_ready (rs := [6]) (by kernel_rfl) (by simp) ?_
            refine AllReadyH.cons rfl (fun KK hK => ?_) AllReadyH.nil
            go_simp
            refine hK.out _ _ HNB2.out (fun hHeldA => ?_)
            clear hK KK g0 g1 g2 g3 g4 gf0 gf1 gf2 gf3 gf4 z4 z5 HNB
            try simp only [List.getElem_toArray]
            try simp only [List.getElem_cons_succ]
            try simp only [List.getElem_cons_zero]
            try simp only [Act.put]
            try simp only [List.setIfInBounds_toArray]
            try simp only [List.set_cons_succ]
            try simp only [List.set_cons_zero]
            obtain ⟨xe, hxe⟩ : ∃ xe, set5 x52 C50 (.int .i64 k) (.int .i64 a) (.int .i64 b) (.string x) (.string v) = xe := ⟨_, rfl⟩
            rw [hxe] at HNB2 y4 y5 HCX
            have hxe' : (((((x52.setCell ⟨C50, 0, none⟩ (.int .i64 k)).setCell ⟨C50, 1, none⟩ (.int .i64 a)).setCell ⟨C50, 2, none⟩ (.int .i64 b)).setCell ⟨C50, 3, none⟩ (.string x)).setCell ⟨C50, 4, none⟩ (.string v)) = xe := hxe
            rw [hxe']
            clear hxe hxe'
            obtain ⟨⟨g0, g1, g2, g3, g4⟩, gf⟩ := y5.out
            have gf0 := gf 0
            have gf1 := gf 1
            have gf2 := gf 2
            have gf3 := gf 3
            have gf4 := gf 4
            have HNB3 := Lib.hid (And.intro (set5_num HNB2.out.1 (C := C41) (by omega) (.int .i64 k') (.int .i64 a') (.int .i64 b') (.string x') (.string v')) (set5_num HNB2.out.2 (C := C41) (by omega) (.int .i64 k') (.int .i64 a') (.int .i64 b') (.string x') (.string v')))
            have r5 := Lib.hid (set5_at y5.out k' a' b' x' v')
            have r4 := Lib.hid (set5_box y4.out hne (.int .i64 k') (.int .i64 a') (.int .i64 b') (.string x') (.string v'))
            have HCY := Lib.hid (set5_below HCX.out (show w.heap.size ≤ C41 by omega) (.int .i64 k') (.int .i64 a') (.int .i64 b') (.string x') (.string v'))
            refine wpAnyH_ready (rs := [7]) (by kernel_rfl) (by simp) ?_
            refine AllReadyH.cons rfl (fun KK hK => ?_) AllReadyH.nil
            go_simp
            refine hK.out _ _ HNB3.out (fun hHeldB => ?_)
            clear hK KK g0 g1 g2 g3 g4 gf gf0 gf1 gf2 gf3 gf4
            try simp only [List.getElem_toArray]
            try simp only [List.getElem_cons_succ]
            try simp only [List.getElem_cons_zero]
            try simp only [Act.put]
            try simp only [List.setIfInBounds_toArray]
            try simp only [List.set_cons_succ]
            try simp only [List.set_cons_zero]
            refine wpAnyH_done (by kernel_rfl) ?_ _
            refine NoPanic.normal ?_
            go_wp2_with fail
            go_meet
            exact ⟨C50, C41, rfl, rfl, r4, r5, HCY⟩
    -- END ORDERS
  case rest =>
    obtain ⟨C, D, rfl, rfl, HC, HD, c2⟩ := hcut
    clear c1 HN HN' HO HO' HU HU' hb hb'
    have c1 := Lib.hid c2.out
    clear c2
    obtain ⟨T, hT⟩ : ∃ T, prT ⟨k, a, b, x, v⟩ = T := ⟨_, rfl⟩
    obtain ⟨T', hT'⟩ : ∃ T', prT ⟨k', a', b', x', v'⟩ = T' := ⟨_, rfl⟩
    have e1 : T.data.toList = opT ⟨k, a, b, x, v⟩ := by rw [← hT, (pr_good hg).1, pack_data]
    have e2 : T'.data.toList = opT ⟨k', a', b', x', v'⟩ := by rw [← hT', (pr_good hg').1, pack_data]
    obtain ⟨r, hr⟩ : ∃ r, decide ((⟨k, a, b, x, v⟩ : OpD) = ⟨k', a', b', x', v'⟩) = r := ⟨_, rfl⟩
    have hst : (T.toList == T'.toList) = r := by
      rw [← hr, toList_data, toList_data, e1, e2, Bool.eq_iff_iff, beq_iff_eq, decide_eq_true_iff]
      exact ⟨fun h => opT_inj hg hg' h, fun h => by rw [h]⟩
    have hrr : (r != r) = false := by cases r <;> rfl
    have hop : ∀ w, (binOp .eql 28 (opA k a b x v) (opA k' a' b' x' v')).run Tryz.prog w = .ok (.bool r) w := op_eql ⟨k, a, b, x, v⟩ ⟨k', a', b', x', v'⟩ r hr
    have hnd : ∀ w, (binOp .neq 28 (opA k a b x v) (opA k a b x v)).run Tryz.prog w = .ok (.bool false) w := op_neq ⟨k, a, b, x, v⟩ ⟨k, a, b, x, v⟩ true (decide_eq_true rfl)
    have hTs : T.size ≤ 100000 := by
      have := opT_len hg
      rw [← e1, Array.length_toList] at this
      exact Nat.le_trans this (by decide)
    have q1 := fun m w he => print_any k a b x v hf m w he
    have q2 := fun m w he => print_any k' a' b' x' v' hf' m w he
    have q3 := fun m w he => check_any39 k a b x v hf m w he
    have q4 := fun m w he => parse39_any T hTs m w he
    rw [hT, (pr_good hg).2] at q1
    rw [hT', (pr_good hg').2] at q2
    rw [(pr_good hg).2] at q3
    rw [e1, (opP_text hg).1, (opP_text hg).2] at q4
    have hc0 := contains_no T (by rw [e1]; exact opT_no10 hg)
    have hw0 := word_pre T _ e1
    obtain ⟨WK, hWK⟩ : ∃ WK, pack (wordL k) = WK := ⟨_, rfl⟩
    have hw1 : ∀ w, Calls Tryz.prog 47 #[.string T, .string WK] w fun e w' => e = .returned (.bool true) ∧ w' = w := by
      rw [← hWK]
      exact hw0
    have Q1 := Lib.hid q1
    have Q2 := Lib.hid q2
    have Q3 := Lib.hid q3
    have Q4 : Hid (∀ m w, Env m w → Calls Tryz.prog 28 #[.string T] w fun e w' => e = .returned (.tuple #[opA k a b x v, .int .i64 0]) ∧ Below w.heap.size w w') := q4
    have HCN := Lib.hid hc0
    have HW1 := Lib.hid hw1
    have HWK := Lib.hid hWK
    clear q1 q2 q3 q4 hc0 hw0 hw1 hWK hT hT' e1 e2 hr hTs hg hg' hf hf'
    obtain ⟨⟨k0, k1, k2, k3, k4⟩, kf⟩ := HC.out
    clear kf
    go_wp2_with fail
    refine (Q1.out m _ (HE.out.below c1.out)).mono ?_
    rintro e w1 ⟨rfl, b1⟩
    have c2 := Lib.hid (c1.out.trans (b1.mono c1.out.size))
    clear c1
    have c1 := Lib.hid c2.out
    clear c2
    have hh := Lib.hid (HC.out.below b1)
    clear HC
    have HC := Lib.hid hh.out
    clear hh
    have hh := Lib.hid (HD.out.below b1)
    clear HD
    have HD := Lib.hid hh.out
    clear hh
    clear b1 k0 k1 k2 k3 k4
    obtain ⟨⟨k0, k1, k2, k3, k4⟩, kf⟩ := HD.out
    clear kf
    go_wp2_with fail
    refine (Q2.out m _ (HE.out.below c1.out)).mono ?_
    rintro e w2 ⟨rfl, b1⟩
    have c2 := Lib.hid (c1.out.trans (b1.mono c1.out.size))
    clear c1
    have c1 := Lib.hid c2.out
    clear c2
    have hh := Lib.hid (HC.out.below b1)
    clear HC
    have HC := Lib.hid hh.out
    clear hh
    have hh := Lib.hid (HD.out.below b1)
    clear HD
    have HD := Lib.hid hh.out
    clear hh
    clear b1 k0 k1 k2 k3 k4
    go_wp2_with fail
    refine (Q4.out m _ (HE.out.below c1.out)).mono ?_
    rintro e w3 ⟨rfl, b1⟩
    have c2 := Lib.hid (c1.out.trans (b1.mono c1.out.size))
    clear c1
    have c1 := Lib.hid c2.out
    clear c2
    have hh := Lib.hid (HC.out.below b1)
    clear HC
    have HC := Lib.hid hh.out
    clear hh
    have hh := Lib.hid (HD.out.below b1)
    clear HD
    have HD := Lib.hid hh.out
    clear hh
    clear b1
    have b1 := (Below.refl w3.heap.size w3).alloc (Nat.le_refl _) (.cells #[.int .i64 k, .int .i64 a, .int .i64 b, .string x, .string v] 28)
    have HB := Lib.hid (OpBox.new w3 k a b x v 28)
    have c2 := Lib.hid (c1.out.trans (b1.mono c1.out.size))
    clear c1
    have c1 := Lib.hid c2.out
    clear c2
    have hh := Lib.hid (HC.out.below b1)
    clear HC
    have HC := Lib.hid hh.out
    clear hh
    have hh := Lib.hid (HD.out.below b1)
    clear HD
    have HD := Lib.hid hh.out
    clear hh
    clear b1
    obtain ⟨⟨k0, k1, k2, k3, k4⟩, kf⟩ := HC.out
    clear kf
    go_wp2_with fail
    generalize (w3.alloc (.cells #[.int .i64 k, .int .i64 a, .int .i64 b, .string x, .string v] 28)) = w4 at *
    obtain ⟨F, hF⟩ : ∃ F, w3.heap.size = F := ⟨_, rfl⟩
    rw [hF] at HB
    rw [hF]
    clear hF
    refine (Q3.out m _ (HE.out.below c1.out)).mono ?_
    rintro e w5 ⟨rfl, b1⟩
    have c2 := Lib.hid (c1.out.trans (b1.mono c1.out.size))
    clear c1
    have c1 := Lib.hid c2.out
    clear c2
    have hh := Lib.hid (HC.out.below b1)
    clear HC
    have HC := Lib.hid hh.out
    clear hh
    have hh := Lib.hid (HD.out.below b1)
    clear HD
    have HD := Lib.hid hh.out
    clear hh
    have hh := Lib.hid (HB.out.below b1)
    clear HB
    have HB := Lib.hid hh.out
    clear hh
    clear b1 k0 k1 k2 k3 k4 Q1 Q2 Q3 Q4
    obtain ⟨⟨k0, k1, k2, k3, k4⟩, kf⟩ := HC.out
    obtain ⟨⟨p0, p1, p2, p3, p4⟩, pf⟩ := HD.out
    obtain ⟨⟨q0, q1, q2, q3, q4⟩, qf⟩ := HB.out
    clear kf pf qf
    go_wp2_with fail
    refine (HCN.out _).mono ?_
    rintro e w6 ⟨rfl, rfl⟩
    go_wp2_with fail
    refine (word_any k _).mono ?_
    rw [HWK.out]
    rintro e w7 ⟨rfl, b1⟩
    have c2 := Lib.hid (c1.out.trans (b1.mono c1.out.size))
    clear c1
    have c1 := Lib.hid c2.out
    clear c2
    clear b1 k0 k1 k2 k3 k4 p0 p1 p2 p3 p4 q0 q1 q2 q3 q4 HB HD HC
    go_wp2_with fail
    refine (HW1.out _).mono ?_
    rintro e w8 ⟨rfl, rfl⟩
    clear HW1 HWK HCN hop hnd hst hrr
    by_cases hbig : 300 < s.size
    · have d0 : decide (300 < (s.size : Int)) = true := by rw [decide_eq_true_iff]; omega
      clear hbig
      go_wp2_with fail
      refine (works39_any m _ (HE.out.below c1.out)).mono ?_
      rintro e w9 ⟨rfl, b1⟩
      have c2 := Lib.hid (c1.out.trans (b1.mono c1.out.size))
      clear c1
      have c1 := Lib.hid c2.out
      clear c2
      clear b1
      go_wp2_with fail
      go_ret
      exact ⟨rfl, c1.out⟩
    · have d0 : decide (300 < (s.size : Int)) = false := by rw [decide_eq_false_iff_not]; omega
      have q5 := fun m w he => parse39_any s (by omega) m w he
      have hss : s.size ≤ 300 := by omega
      have HSS := Lib.hid hss
      clear hbig hss
      rcases opP_cases s.data.toList with ⟨g1, g2, g3⟩ | ⟨g1, g2, _⟩
      · rw [g3] at q5
        obtain ⟨oq, hoq⟩ : ∃ oq, opP s.data.toList = oq := ⟨_, rfl⟩
        rw [hoq] at g1 g2 q5
        clear hoq g3
        have hfq : opFit oq := good_fit g1 (by rw [g2, Array.length_toList]; exact HSS.out)
        obtain ⟨kq, aq, bq, xq, vq⟩ := oq
        have hTq : prT ⟨kq, aq, bq, xq, vq⟩ = s := by
          rw [(pr_good g1).1, g2]
          exact data_pack s
        have q6 := fun m w he => print_any kq aq bq xq vq hfq m w he
        have q7 := fun m w he => check_any39 kq aq bq xq vq hfq m w he
        rw [hTq, (pr_good g1).2] at q6
        rw [(pr_good g1).2] at q7
        have Q5 : Hid (∀ m w, Env m w → Calls Tryz.prog 28 #[.string s] w fun e w' => e = .returned (.tuple #[opA kq aq bq xq vq, .int .i64 0]) ∧ Below w.heap.size w w') := q5
        have Q6 := Lib.hid q6
        have Q7 := Lib.hid q7
        clear q5 q6 q7 g1 g2 hfq hTq
        have he1 : (s.toList == s.toList) = true := beq_self_eq_true _
        go_wp2_with fail
        refine (Q5.out m _ (HE.out.below c1.out)).mono ?_
        rintro e w9 ⟨rfl, b1⟩
        have c2 := Lib.hid (c1.out.trans (b1.mono c1.out.size))
        clear c1
        have c1 := Lib.hid c2.out
        clear c2
        clear b1
        have b1 := (Below.refl w9.heap.size w9).alloc (Nat.le_refl _) (.cells #[.int .i64 kq, .int .i64 aq, .int .i64 bq, .string xq, .string vq] 28)
        have HB := Lib.hid (OpBox.new w9 kq aq bq xq vq 28)
        have c2 := Lib.hid (c1.out.trans (b1.mono c1.out.size))
        clear c1
        have c1 := Lib.hid c2.out
        clear c2
        clear b1
        obtain ⟨⟨k0, k1, k2, k3, k4⟩, kf⟩ := HB.out
        clear kf
        go_wp2_with fail
        refine (Q6.out m _ (HE.out.below c1.out)).mono ?_
        rintro e w10 ⟨rfl, b1⟩
        have c2 := Lib.hid (c1.out.trans (b1.mono c1.out.size))
        clear c1
        have c1 := Lib.hid c2.out
        clear c2
        have hh := Lib.hid (HB.out.below b1)
        clear HB
        have HB := Lib.hid hh.out
        clear hh
        clear b1 k0 k1 k2 k3 k4
        obtain ⟨⟨k0, k1, k2, k3, k4⟩, kf⟩ := HB.out
        clear kf
        go_wp2_with fail
        refine (Q7.out m _ (HE.out.below c1.out)).mono ?_
        rintro e w11 ⟨rfl, b1⟩
        have c2 := Lib.hid (c1.out.trans (b1.mono c1.out.size))
        clear c1
        have c1 := Lib.hid c2.out
        clear c2
        clear b1 k0 k1 k2 k3 k4 HB
        go_wp2_with fail
        refine (works39_any m _ (HE.out.below c1.out)).mono ?_
        rintro e w12 ⟨rfl, b1⟩
        have c2 := Lib.hid (c1.out.trans (b1.mono c1.out.size))
        clear c1
        have c1 := Lib.hid c2.out
        clear c2
        clear b1
        go_wp2_with fail
        go_ret
        exact ⟨rfl, c1.out⟩
      · rw [g1, g2] at q5
        have Q5 : Hid (∀ m w, Env m w → Calls Tryz.prog 28 #[.string s] w fun e w' => e = .returned (.tuple #[opA 0 0 0 ⟨#[]⟩ ⟨#[]⟩, .int .i64 8]) ∧ Below w.heap.size w w') := q5
        have hz : ∀ w, (binOp .eql 28 (opA 0 0 0 ⟨#[]⟩ ⟨#[]⟩) (opA 0 0 0 ⟨#[]⟩ ⟨#[]⟩)).run Tryz.prog w = .ok (.bool true) w := op_eql ⟨0, 0, 0, ⟨#[]⟩, ⟨#[]⟩⟩ ⟨0, 0, 0, ⟨#[]⟩, ⟨#[]⟩⟩ true (decide_eq_true rfl)
        clear q5 g1 g2
        go_wp2_with fail
        refine (Q5.out m _ (HE.out.below c1.out)).mono ?_
        rintro e w9 ⟨rfl, b1⟩
        have c2 := Lib.hid (c1.out.trans (b1.mono c1.out.size))
        clear c1
        have c1 := Lib.hid c2.out
        clear c2
        clear b1
        have b1 := (Below.refl w9.heap.size w9).alloc (Nat.le_refl _) (.cells #[.int .i64 0, .int .i64 0, .int .i64 0, .string ⟨#[]⟩, .string ⟨#[]⟩] 28)
        obtain ⟨⟨k0, k1, k2, k3, k4⟩, kf⟩ := OpBox.new w9 0 0 0 ⟨#[]⟩ ⟨#[]⟩ 28
        have c2 := Lib.hid (c1.out.trans (b1.mono c1.out.size))
        clear c1
        have c1 := Lib.hid c2.out
        clear c2
        clear b1 kf
        go_wp2_with fail
        refine (works39_any m _ (HE.out.below c1.out)).mono ?_
        rintro e w12 ⟨rfl, b1⟩
        have c2 := Lib.hid (c1.out.trans (b1.mono c1.out.size))
        clear c1
        have c1 := Lib.hid c2.out
        clear c2
        clear b1 k0 k1 k2 k3 k4
        go_wp2_with fail
        go_ret
        exact ⟨rfl, c1.out⟩
theorem walkOpBack (K Y Q T : Nat) (u : Value) (l : List UInt8) (hn : numOK K Y Q T) (K' Y' Q' T' : Nat) (u' : Value) (l' : List UInt8) (hn' : numOK K' Y' Q' T') (s : ByteArray) (m : Int) (w : World) (hu : BytesAt w u l) (hu' : BytesAt w u' l') (ht : Tab w) (he : Errs w) (hm : w.cell? ⟨0, 0, none⟩ = some (.int .i64 m)) :
    Calls Tryz.prog 10 #[numV K Y Q T u, numV K' Y' Q' T' u', .string s] w fun e w' => e = .returned (.bool true) ∧ Below w.heap.size w w' := by
  obtain ⟨k, a, b, x, v, ho, hg, hf⟩ := made_op K Y Q T l
  obtain ⟨k', a', b', x', v', ho', hg', hf'⟩ := made_op K' Y' Q' T' l'
  exact back_top K Y Q T u l hn K' Y' Q' T' u' l' hn' s m w hu hu' ⟨ht, he, hm⟩ k a b x v ho k' a' b' x' v' ho' hg hf hg' hf'
end Go.Proofs.YtlmbcclggaflaaaGreatDoor
namespace Go.Proofs.YtlmbcclggaflaaaGreatDoor.lawOpBack
open Go Go.RowKit Go.ChangeShapes Go.WideShapes Go.ChangeAt
open Go.ChangeMaps (open_string shut_string)

set_option maxRecDepth 100000 in
theorem contract (H : Type) (enc : TypeId × Value → H) (W : World) (base : Nat) (args : Array Value) (ds gs : List (DataW H)) (before : List MemPlace)
    (hval : ∀ (j : Nat) t v, Tryz.f10.params[j]? = some t → args[j]? = some v → Value.okWide Tryz.prog W .any base t v)
    (hW : DataW.Whole enc Tryz.prog Tryz.f10.params.toList Rows.opBackSpec.vars false W args.toList ds gs before) (hL : laidMetH Tryz.prog Rows.opBackRow.laid W) (hR : (DataW.weightsEach Tryz.prog (Tryz.f10.params.toList ++ (OpenSpec.ofChange Rows.opBackSpec).bare.plain.varTypes Tryz.prog) (ds ++ gs)).all (· ≤ reachBytes) = true) (hS : W.ShapedOpen Tryz.prog) :
    Calls Tryz.prog 10 args W fun e W' => ∃ v, e = .returned v ∧ Rows.opBackSpec.post enc Tryz.prog Tryz.f10 false true false false W args v W' := by
  have hW' := hW
  obtain ⟨p, q, hA0, hV, rfl, hfz, hnd⟩ := hW
  have hA : DataW.TrodAll enc Tryz.prog W 0 (fun _ => true) true Tryz.f10.params.toList args.toList ds p := hA0
  rw [Tryz.params10] at hA hval
  obtain ⟨v0, vs0, d0, ds0, p0, q0, hargs, rfl, rfl, h0, r0⟩ := trodAll_cons hA
  obtain ⟨v1, vs1, d1, ds1, p1, q1, rfl, rfl, rfl, h1, r1⟩ := trodAll_cons r0
  obtain ⟨v2, vs2, d2, ds2, p2, q2, rfl, rfl, rfl, h2, r2⟩ := trodAll_cons r1
  obtain ⟨rfl, rfl, rfl⟩ := trodAll_nil r2
  obtain rfl : args = #[v0, v1, v2] := by cases args; simp_all
  obtain ⟨rfl, rfl⟩ := trodVars_none hV
  obtain ⟨mL, hm⟩ := maxLen_of hS
  obtain ⟨K0, Y0, Q0, T0, u0, l0, rfl, R0, B0⟩ := open_num h0 (hval 0 25 v0 rfl rfl)
  obtain ⟨K1, Y1, Q1, T1, u1, l1, rfl, R1, B1⟩ := open_num h1 (hval 1 25 v1 rfl rfl)
  obtain ⟨a2, rfl, rfl, rfl, ws2⟩ := open_string Tryz.underlying9 (hval 2 9 v2 rfl rfl) h2
  clear hA0
  simp only [List.append_nil] at hW'
  have hlt := fun x hx => hW'.lt x hx
  refine (walkOpBack K0 Y0 Q0 T0 u0 l0 R0 K1 Y1 Q1 T1 u1 l1 R1 a2 mL W B0 B1 (tab_of_laid hL) (errs_of_laid hL) hm).mono fun e W' ⟨he, hb⟩ => ?_
  subst he
  refine ⟨_, rfl, _, _, _, [], (p0 ++ (p1 ++ ([] ++ []))), [], hW', ?_, ?_, rfl, hb.frame _, fun h => by cases h⟩
  · exact trodAll_cons_mk (shut_bool Tryz.underlying4 _) trodAll_mk0
  · exact trodAll_cons_mk (Below.trod (by kernel_rfl) (by kernel_rfl) (of_decide_eq_true (by kernel_rfl)) h0 hb (fun x hx => by simpa using hlt x (by simp [hx]))) (trodAll_cons_mk (Below.trod (by kernel_rfl) (by kernel_rfl) (of_decide_eq_true (by kernel_rfl)) h1 hb (fun x hx => by simpa using hlt x (by simp [hx]))) (trodAll_cons_mk (shut_string Tryz.underlying9 ws2) trodAll_mk0))

theorem reads (os : Os) {H : Type} (enc : TypeId × Value → H) : ∃ places, DataW.whole enc Tryz.prog ((laidWorld os).forCall (fun _ _ => 0) ⟨#[], #[.agg #[.int .u8 0, .int .u8 0, .int .u8 0, .int .u32 0, .slice none 0 0], .agg #[.int .u8 0, .int .u8 0, .int .u8 0, .int .u32 0, .slice none 0 0], .string ⟨#[]⟩], []⟩).memory Tryz.f10.params.toList Rows.opBackSpec.vars false (#[.agg #[.int .u8 0, .int .u8 0, .int .u8 0, .int .u32 0, .slice none 0 0], .agg #[.int .u8 0, .int .u8 0, .int .u8 0, .int .u32 0, .slice none 0 0], .string ⟨#[]⟩] : Array Value).toList 8 = some ([.agg [.lit (.int .u8 0), .lit (.int .u8 0), .lit (.int .u8 0), .lit (.int .u32 0), .nil], .agg [.lit (.int .u8 0), .lit (.int .u8 0), .lit (.int .u8 0), .lit (.int .u32 0), .nil], .lit (.string [])], [], places) :=
  ⟨[], by kernel_rfl⟩

set_option maxRecDepth 100000 in
theorem lifted (os : Os) (started : os.Started) (H : Type) (enc : TypeId × Value → H) (F : Stop.Interp) :
    ReturnsInHanded {} Tryz.checked os 10 .any ((OpenSpec.ofChange Rows.opBackSpec).preRow enc Tryz.prog Tryz.f10 Rows.opBackRow.domain false Rows.opBackRow.laid) (((OpenSpec.ofChange Rows.opBackSpec).at F).post enc Tryz.prog Tryz.f10 false true false false) := by
  obtain ⟨places, hx⟩ := reads os enc
  refine returnsInHanded_of_row (C := Tryz.checked) (s := OpenSpec.ofChange Rows.opBackSpec) own started (by kernel_rfl) Tryz.func10
    (witness_row_atRef (enc := enc) (C := Tryz.checked) false (laidWorld os) #[.agg #[.int .u8 0, .int .u8 0, .int .u8 0, .int .u32 0, .slice none 0 0], .agg #[.int .u8 0, .int .u8 0, .int .u8 0, .int .u32 0, .slice none 0 0], .string ⟨#[]⟩] rfl (by kernel_rfl) (by kernel_rfl) (by kernel_rfl)
      (OpenSpec.preRow_of_cond 8 hx (by kernel_rfl) (fun k hk => by cases hk) (by kernel_rfl) (laid_met os _))) ?_
  intro W base args ds gs before hval hW _ _ hR hL hS _
  exact contract H enc W base args ds gs before hval hW hL hR hS

theorem said : Rows.OpBackSaid :=
  OpenClaim.holds_of_cond 10 Tryz.f10 rfl rfl rfl rfl rfl rfl rfl ⟨rfl, rfl, rfl, rfl, rfl⟩ rfl rfl rfl rfl rfl (by kernel_rfl) Tryz.func10 (by kernel_rfl)
    (of_decide_eq_true (by kernel_rfl)) (by unfold Func.isWrapper; first | (rw [if_pos (by decide +kernel)]; kernel_rfl) | (rw [if_neg (by decide +kernel)]; exact ⟨rfl, rfl⟩))
    (fun os started H enc _ F => by rw [OpenClaim.pre_eq_preRow]; exact lifted os started H enc F)

theorem plain (f : FuncId) (fn : Func) (hf : Tryz.pinned.checked.prog.funcNamed Tryz.f10.name = some f) (hfn : Tryz.pinned.checked.prog.funcs[f]? = some fn) :
    true = Tryz.pinned.checked.prog.looks [] ∧ ∀ (j : Nat) t, fn.params[j]? = some t → Tryz.pinned.checked.prog.wantsStandIn t = false := by
  obtain rfl : f = 10 := Option.some.inj ((show Tryz.prog.funcNamed Tryz.f10.name = some 10 by kernel_rfl).symm.trans hf) |>.symm
  obtain rfl : fn = Tryz.f10 := (Option.some.inj (Tryz.func10.symm.trans hfn)).symm
  refine ⟨by kernel_rfl, fun j t ht => ?_⟩
  have key : Tryz.f10.params.all (fun t => !Tryz.prog.wantsStandIn t) = true := by kernel_rfl
  have h2 := Array.all_eq_true_iff_forall_mem.1 key t (Array.mem_of_getElem? ht)
  rw [Bool.not_eq_true'] at h2
  exact h2

theorem proved : Rows.OpBackCardSaid :=
  Claim7.holds_tied_plain_at .later [] _ _ _ _ said (fun _ h => by cases h) (by kernel_rfl) (fun _ h => by cases h) opBack_row_tie rfl ⟨rfl, rfl⟩ (by kernel_rfl) rfl plain (by kernel_rfl)
end Go.Proofs.YtlmbcclggaflaaaGreatDoor.lawOpBack
