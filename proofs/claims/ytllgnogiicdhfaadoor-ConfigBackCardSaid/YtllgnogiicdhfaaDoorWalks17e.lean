/-
  Configurations: texts are read back; texts that are changed are not.
  Conditions: the library's tables lie in the world.
-/
import Derived.Test.YtllgnogiicdhfaaDoorBack17
import Derived.Test.YtllgnogiicdhfaaDoorWalks17c
import Derived.Laws.OwnMore
set_option linter.unusedVariables false
namespace Go.Proofs.YtllgnogiicdhfaaDoor
open Go Go.RowKit

theorem split_own (s : ByteArray) (hs : s.size ≤ 1000000) (n : Nat) (hn : (wordsL s).length = n) (m : Int) (w : World) (hm : w.cell? ⟨0, 0, none⟩ = some (.int .i64 m)) :
    Calls Tryd.prog 26 #[.string s, .string spS] w fun e w' => e = .returned (.slice (some ⟨w.heap.size, 0, none⟩) n n) ∧ w'.ownsRow w.heap.size 9 1 (.slice (some ⟨w.heap.size, 0, none⟩) n n) n (strCellsL (wordsL s)) ∧ Below w.heap.size w w' := by
  have hc : Lib.countB s spS + 1 = n := by rw [← hn, wordsL_length]
  refine (Tryd.strings_Split s spS m w (by omega) hm (by decide)).mono ?_
  rw [hc]
  rintro e w' ⟨rfl, rfl⟩
  have hsz : n ≤ 1000001 := by
    rw [← hn, words_len]
    have hl : ∀ l : List UInt8, (wl l).length ≤ l.length + 1 := by
      intro l
      induction l with
      | nil => simp [wl]
      | cons c r ih =>
        by_cases hc : c = 32
        · rw [hc, wl_space]; simp; omega
        · cases hw : wl r with
          | nil => exact absurd hw (wl_ne r)
          | cons x t => rw [wl_cons hc hw]; rw [hw] at ih; simp at ih ⊢; omega
    have h1 := hl s.data.toList
    rw [str_len] at h1
    omega
  have ho := World.ownsRow_lit (base := w.heap.size) (e := 9) (size := 1) w (strCellsL (wordsL s)).toArray n (Nat.le_refl _) (Nat.le_trans hsz (by decide)) (by unfold strCellsL; simp [hn])
  refine ⟨rfl, ?_, (Below.refl _ _).alloc (Nat.le_refl _) _⟩
  have e : (strCellsL (wordsL s)).toArray.toList = strCellsL (wordsL s) := rfl
  rw [e] at ho
  exact ho
theorem join_at (xs : List ByteArray) (n c B : Nat) (w : World) (hn : n ≤ xs.length) (hc : n ≤ c) (h : ∀ j, j < xs.length → w.cell? ⟨B, j, none⟩ = some (.string (xs.getD j ⟨#[]⟩))) (hB : B < w.heap.size) (hn2 : n ≤ 100000) (r sep : ByteArray) (hr : Lib.join ((xs.take n).map (·.data.toList)) sep.data.toList = r.data.toList) (hlen : r.size ≤ 140737488355328) :
    Calls Tryd.prog 27 #[.slice (some ⟨B, 0, none⟩) n c, .string sep] w fun e w' => e = .returned (.string r) ∧ Below w.heap.size w w' := by
  have hl : (xs.take n).length = n := by rw [List.length_take]; omega
  have h2 := Tryd.strings_Join B 0 c (xs.take n) sep w (fun j x hx => by
    have hj : j < n := by have := (List.getElem?_eq_some_iff.1 hx).1; rw [hl] at this; exact this
    rw [Nat.zero_add, h j (by omega)]
    rw [List.getElem?_take, if_pos hj] at hx
    rw [List.getD, hx]; rfl) hB (by omega) (by omega) (by rw [hr, str_len]; exact hlen)
  rw [hl, hr, str_back] at h2
  exact h2
theorem row_at {w : World} {B g n c : Nat} {e : TypeId} {xs : List ByteArray} (h : w.ownsRow B e 1 (.slice (some ⟨g, 0, none⟩) n c) n (strCellsL xs)) (hn : xs.length = n) : ∀ j, j < xs.length → w.cell? ⟨g, j, none⟩ = some (.string (xs.getD j ⟨#[]⟩)) := by
  intro j hj
  rw [h.cellAt j (by omega)]
  unfold strCellsL
  rw [List.getElem?_map, List.getD, List.getElem?_eq_getElem hj]
  rfl

set_option maxRecDepth 100000 in
set_option maxHeartbeats 8000000 in
theorem walkConfigBack (n : Nat → Int) (hn : ∀ i, i < 7 → 0 ≤ n i ∧ n i < 4294967296) (x : Int) (hx : (Lit.int .u8 x).wf = true) (m : Int) (w : World) (ht : Tab w) (hm : w.cell? ⟨0, 0, none⟩ = some (.int .i64 m)) :
    Calls Tryd.prog 7 #[arrV n, .int .u8 x] w fun e w' => e = .returned (.bool true) ∧ Below w.heap.size w w' := by
  have HT := Lib.hid ht
  have HM := Lib.hid hm
  obtain ⟨S, Z, R, W, K, V, P, hE, hmd⟩ := made_any n hn
  have HMD := Lib.hid hmd
  have HE := Lib.hid hE
  obtain ⟨x1, x2⟩ := u8_in hx
  obtain ⟨k, hk⟩ : ∃ k : Nat, x.tmod 7 = (k : Int) := by
    rw [Int.tmod_eq_emod_of_nonneg x1]
    have := Int.emod_nonneg x (show (7 : Int) ≠ 0 by decide)
    exact ⟨(x % 7).toNat, by omega⟩
  have hk7 : k < 7 := by
    rw [Int.tmod_eq_emod_of_nonneg x1] at hk
    have := Int.emod_lt_of_pos x (show (0 : Int) < 7 by decide)
    omega
  obtain ⟨s, hs⟩ : ∃ s : ByteArray, s.data.toList = textL S Z R W K V P := ⟨pack _, pack_data _⟩
  have hsl : s.size ≤ 200 := by
    rw [← str_len, hs]
    exact textL_len (small_nums hE).1
  have hP := (small_nums hE).2
  have hw7 : wordsL s = ws7 S Z R W K V P := text_words hs
  have HS := Lib.hid hs
  have HW := Lib.hid hw7
  have HL : Hid ((wordsL s).length = 7) := by show _ = _; rw [hw7]; exact ws7_len
  have hword6 : (wordsL s).getD 6 ⟨#[]⟩ = polS P := by
    rw [hw7]
    unfold ws7
    rw [List.getD, List.getElem?_append_right (by rw [digW_length]; exact Nat.le_refl _), digW_length]
    rfl
  have HW6 := Lib.hid hword6
  have hsl6 : Hid (s.size ≤ 1000000) := by show s.size ≤ 1000000; omega
  clear ht hm hx hn hmd hE hs hw7 hword6
  have a0 := arrAt_new w n 36 0 (by decide)
  have a1 := arrAt_new w n 36 1 (by decide)
  have a2 := arrAt_new w n 36 2 (by decide)
  have a3 := arrAt_new w n 36 3 (by decide)
  have a4 := arrAt_new w n 36 4 (by decide)
  have a5 := arrAt_new w n 36 5 (by decide)
  have a6 := arrAt_new w n 36 6 (by decide)
  have c1 : Below w.heap.size w (w.alloc (.cells #[.int .u32 (n 0), .int .u32 (n 1), .int .u32 (n 2), .int .u32 (n 3), .int .u32 (n 4), .int .u32 (n 5), .int .u32 (n 6)] 36)) := (Below.refl _ _).alloc (Nat.le_refl _) _
  go_enter Tryd.func7, Tryd.ntmps7
  go_wp2_with fail
  refine (HMD.out _).mono ?_
  rintro y w1 ⟨rfl, b1⟩
  have c2 := c1.trans (b1.mono c1.size); clear c1 b1
  have c1 := c2; clear c2
  have hsz := c1.size
  clear a0 a1 a2 a3 a4 a5 a6
  obtain ⟨k0, k1, k2, k3, k4, k5, k6⟩ := cfgAt_new w1 S Z R W K V P 23
  have c2 := c1.alloc c1.size (.cells #[.int .i64 S, .int .i64 Z, .int .i64 R, .int .i64 W, .int .i64 K, .int .i64 V, .int .i64 P] 23); clear c1
  have c1 := c2; clear c2
  go_wp2_with fail
  refine (cText_any S Z R W K V P _ (HT.out.below c1) s 0 (Or.inl ⟨HS.out, rfl, HE.out⟩)).mono ?_
  rintro y w2 ⟨rfl, b1⟩
  replace k0 := cell_kept k0 b1
  replace k1 := cell_kept k1 b1
  replace k2 := cell_kept k2 b1
  replace k3 := cell_kept k3 b1
  replace k4 := cell_kept k4 b1
  replace k5 := cell_kept k5 b1
  replace k6 := cell_kept k6 b1
  have c2 := c1.trans (b1.mono c1.size); clear c1 b1
  have c1 := c2; clear c2
  go_wp2_with fail
  refine (parse_is s hsl6.out (cfgV S Z R W K V P) 0 (Or.inl ⟨(text_good HE.out HS.out).1, (text_good HE.out HS.out).2, rfl⟩) m _ (HT.out.below c1) (cell_kept HM.out c1)).mono ?_
  rintro y w3 ⟨rfl, b1⟩
  replace k0 := cell_kept k0 b1
  replace k1 := cell_kept k1 b1
  replace k2 := cell_kept k2 b1
  replace k3 := cell_kept k3 b1
  replace k4 := cell_kept k4 b1
  replace k5 := cell_kept k5 b1
  replace k6 := cell_kept k6 b1
  have c2 := c1.trans (b1.mono c1.size); clear c1 b1
  have c1 := c2; clear c2
  obtain ⟨m0, m1, m2, m3, m4, m5, m6⟩ := cfgAt_new w3 S Z R W K V P 23
  replace k0 := cell_old (o := .cells #[.int .i64 S, .int .i64 Z, .int .i64 R, .int .i64 W, .int .i64 K, .int .i64 V, .int .i64 P] 23) k0
  replace k1 := cell_old (o := .cells #[.int .i64 S, .int .i64 Z, .int .i64 R, .int .i64 W, .int .i64 K, .int .i64 V, .int .i64 P] 23) k1
  replace k2 := cell_old (o := .cells #[.int .i64 S, .int .i64 Z, .int .i64 R, .int .i64 W, .int .i64 K, .int .i64 V, .int .i64 P] 23) k2
  replace k3 := cell_old (o := .cells #[.int .i64 S, .int .i64 Z, .int .i64 R, .int .i64 W, .int .i64 K, .int .i64 V, .int .i64 P] 23) k3
  replace k4 := cell_old (o := .cells #[.int .i64 S, .int .i64 Z, .int .i64 R, .int .i64 W, .int .i64 K, .int .i64 V, .int .i64 P] 23) k4
  replace k5 := cell_old (o := .cells #[.int .i64 S, .int .i64 Z, .int .i64 R, .int .i64 W, .int .i64 K, .int .i64 V, .int .i64 P] 23) k5
  replace k6 := cell_old (o := .cells #[.int .i64 S, .int .i64 Z, .int .i64 R, .int .i64 W, .int .i64 K, .int .i64 V, .int .i64 P] 23) k6
  have c2 := c1.alloc c1.size (.cells #[.int .i64 S, .int .i64 Z, .int .i64 R, .int .i64 W, .int .i64 K, .int .i64 V, .int .i64 P] 23); clear c1
  have c1 := c2; clear c2
  go_wp2_with fail
  refine (split_own s hsl6.out 7 HL.out m _ (cell_kept HM.out c1)).mono ?_
  rintro y w4 ⟨rfl, hro, b1⟩
  replace k0 := cell_kept k0 b1
  replace k1 := cell_kept k1 b1
  replace k2 := cell_kept k2 b1
  replace k3 := cell_kept k3 b1
  replace k4 := cell_kept k4 b1
  replace k5 := cell_kept k5 b1
  replace k6 := cell_kept k6 b1
  replace m0 := cell_kept m0 b1
  replace m1 := cell_kept m1 b1
  replace m2 := cell_kept m2 b1
  replace m3 := cell_kept m3 b1
  replace m4 := cell_kept m4 b1
  replace m5 := cell_kept m5 b1
  replace m6 := cell_kept m6 b1
  have hwz := c1.size
  have c2 := c1.trans (b1.mono c1.size); clear c1 b1
  have c1 := c2; clear c2
  generalize (w3.alloc (.cells #[.int .i64 S, .int .i64 Z, .int .i64 R, .int .i64 W, .int .i64 K, .int .i64 V, .int .i64 P] 23)).heap.size = Bw at *
  have HR := Lib.hid hro
  have hc6 : w4.cell? ⟨Bw, 6, none⟩ = some (.string (polS P)) := by
    rw [row_at hro HL.out 6 (by rw [HL.out]; decide), HW6.out]
  clear hro
  go_wp2_with fail
  go_cut [58] from 31 to 57 (fun b wx => b = .bool false ∧ Hid (wx.ownsRow Bw 9 1 (.slice (some ⟨Bw, 0, none⟩) 7 7) 7 (strCellsL (wordsL s))) ∧ Below w.heap.size w wx)
  case first =>
    rcases hP with rfl | rfl
    · have hc6' : w4.cell? ⟨Bw, 6, none⟩ = some (.string greedyS) := hc6
      have hc7 : (w4.alloc (.cells #[.string greedyS, .string benefitS] 9)).drew.cell? ⟨Bw, 6, none⟩ = some (.string greedyS) := cell_old hc6'
      have k6b : (w4.alloc (.cells #[.string greedyS, .string benefitS] 9)).drew.cell? ⟨w1.heap.size, 6, none⟩ = some (.int .i64 1) := cell_old k6
      have q0 : (w4.alloc (.cells #[.string greedyS, .string benefitS] 9)).drew.cell? ⟨w4.heap.size, 0, none⟩ = some (.string greedyS) := new_cell _ _ 0 _ rfl
      have q1 : (w4.alloc (.cells #[.string greedyS, .string benefitS] 9)).drew.cell? ⟨w4.heap.size, 1, none⟩ = some (.string benefitS) := new_cell _ _ 1 _ rfl
      have hRb := Lib.hid (own_below HR.out ((Below.refl _ w4).alloc (Nat.le_refl _) (.cells #[.string greedyS, .string benefitS] 9)).drew)
      have c2 := (c1.alloc c1.size (.cells #[.string greedyS, .string benefitS] 9)).drew
      clear hc6
      go_region
      all_goals (go_wp2_with fail; go_meet; exact ⟨rfl, hRb, c2⟩)
    · have hc6' : w4.cell? ⟨Bw, 6, none⟩ = some (.string benefitS) := hc6
      have hc7 : (w4.alloc (.cells #[.string greedyS, .string benefitS] 9)).drew.cell? ⟨Bw, 6, none⟩ = some (.string benefitS) := cell_old hc6'
      have k6b : (w4.alloc (.cells #[.string greedyS, .string benefitS] 9)).drew.cell? ⟨w1.heap.size, 6, none⟩ = some (.int .i64 2) := cell_old k6
      have q0 : (w4.alloc (.cells #[.string greedyS, .string benefitS] 9)).drew.cell? ⟨w4.heap.size, 0, none⟩ = some (.string greedyS) := new_cell _ _ 0 _ rfl
      have q1 : (w4.alloc (.cells #[.string greedyS, .string benefitS] 9)).drew.cell? ⟨w4.heap.size, 1, none⟩ = some (.string benefitS) := new_cell _ _ 1 _ rfl
      have hRb := Lib.hid (own_below HR.out ((Below.refl _ w4).alloc (Nat.le_refl _) (.cells #[.string greedyS, .string benefitS] 9)).drew)
      have c2 := (c1.alloc c1.size (.cells #[.string greedyS, .string benefitS] 9)).drew
      clear hc6
      go_region
      all_goals (go_wp2_with fail; go_meet; exact ⟨rfl, hRb, c2⟩)
  case rest =>
    obtain ⟨rfl, hR2, c2⟩ := hcut
    clear hc6 HR k0 k1 k2 k3 k4 k5 k6 m0 m1 m2 m3 m4 m5 m6 c1
    obtain ⟨i0, hi0, hz0, hz1, hz2⟩ := info_parts infoStr
    obtain ⟨r1, hr1⟩ : ∃ r : ByteArray, r.data.toList = Lib.join ((digW [S, Z, R, W, K, V] 6).map (·.data.toList)) [32] := ⟨pack _, pack_data _⟩
    have hword : ∀ z ∈ wordsL s, z.data.toList.length ≤ 200 := by
      intro z hz
      rw [str_len]
      exact Nat.le_trans (splitB_size spS _ s z hz) hsl
    have hr1s : r1.size ≤ 100000 := by
      rw [← str_len, hr1]
      refine Nat.le_trans (join_len 200 _ fun b hb => ?_) (by rw [List.length_map, digW_length]; decide)
      rw [List.mem_map] at hb
      obtain ⟨z, hz, rfl⟩ := hb
      have h9 : z ∈ wordsL s := by rw [HW.out, ← List.take_append_drop 6 (ws7 S Z R W K V P), ws7_take]; exact List.mem_append_left _ hz
      exact hword z h9
    obtain ⟨y, hy⟩ : ∃ y, (wordsL s).getD k ⟨#[]⟩ = y := ⟨_, rfl⟩
    have hys : y.size ≤ 200 := by rw [← hy]; exact Nat.le_trans (words_size s k) hsl
    obtain ⟨r4, hr4⟩ : ∃ r : ByteArray, r.data.toList = Lib.join (((wordsL s).set k (zeroS y)).map (·.data.toList)) [32] := ⟨pack _, pack_data _⟩
    have hr4s : r4.size ≤ 100000 := by
      rw [← str_len, hr4]
      refine Nat.le_trans (join_len 201 _ fun b hb => ?_) (by rw [List.length_map, List.length_set, HL.out]; decide)
      rw [List.mem_map] at hb
      obtain ⟨z, hz, rfl⟩ := hb
      rcases List.mem_or_eq_of_mem_set hz with h9 | rfl
      · exact Nat.le_succ_of_le (hword z h9)
      · rw [zeroS_data, List.length_cons, str_len]; omega
    have HBAD : Hid (∀ j, j < 5 → ¬ goodW (wordsL ([r1, s ++ ⟨#[32]⟩, s ++ ⟨#[32, 49]⟩, ⟨#[32]⟩ ++ s, r4].getD j ⟨#[]⟩)) ∧ ([r1, s ++ ⟨#[32]⟩, s ++ ⟨#[32, 49]⟩, ⟨#[32]⟩ ++ s, r4].getD j ⟨#[]⟩).size ≤ 1000000) := by
      intro j hj
      match j, hj with
      | 0, _ => exact ⟨back0 hr1, by show r1.size ≤ _; omega⟩
      | 1, _ => exact ⟨back1 HS.out, by show (s ++ _).size ≤ _; rw [ByteArray.size_append]; show s.size + 1 ≤ _; omega⟩
      | 2, _ => exact ⟨back2 HS.out, by show (s ++ _).size ≤ _; rw [ByteArray.size_append]; show s.size + 2 ≤ _; omega⟩
      | 3, _ => exact ⟨back3 HS.out, by show (_ ++ s).size ≤ _; rw [ByteArray.size_append]; show 1 + s.size ≤ _; omega⟩
      | 4, _ => exact ⟨back4 HE.out k hk7 (by rw [HW.out] at hr4 hy; rw [hy]; exact hr4), by show r4.size ≤ _; omega⟩
    have HR1 : Hid (Lib.join (((wordsL s).take 6).map (·.data.toList)) (⟨#[32]⟩ : ByteArray).data.toList = r1.data.toList) := by
      show _ = _
      rw [hr1, HW.out, ws7_take]
    have HR4 : Hid (Lib.join (((wordsL s).set k (zeroS y)).map (·.data.toList)) (⟨#[32]⟩ : ByteArray).data.toList = r4.data.toList) := hr4.symm
    have HY := Lib.hid hy
    clear hr1 hr4 hy
    go_wp2_with fail
    refine (join_at (wordsL s) 6 7 Bw _ (by rw [HL.out]; decide) (by decide) (row_at hR2.out HL.out) ((hR2.out.lt Bw rfl).2) (by decide) r1 ⟨#[32]⟩ HR1.out (by omega)).mono ?_
    rintro e w5 ⟨rfl, b1⟩
    have hR3 := own_below hR2.out b1
    have c3 := c2.trans (b1.mono c2.size)
    clear hR2 c2 b1
    have hcur := row_at (hR3.alloc (.cells #[.string r1, .string (s ++ ⟨#[32]⟩), .string (s ++ ⟨#[32, 49]⟩), .string (⟨#[32]⟩ ++ s)] 9)) HL.out k (by rw [HL.out]; exact hk7)
    rw [HY.out] at hcur
    have hfr := (hR3.alloc (.cells #[.string r1, .string (s ++ ⟨#[32]⟩), .string (s ++ ⟨#[32, 49]⟩), .string (⟨#[32]⟩ ++ s)] 9)).frozenAt k
    have HR3 := Lib.hid hR3
    clear hR3
    go_wp2_with fail
    have hst := ((HR3.out.alloc (.cells #[.string r1, .string (s ++ ⟨#[32]⟩), .string (s ++ ⟨#[32, 49]⟩), .string (⟨#[32]⟩ ++ s)] 9)).stored k (.string (zeroS y))).1
    have hse : (strCellsL (wordsL s)).set k (.string (zeroS y)) = strCellsL ((wordsL s).set k (zeroS y)) := by unfold strCellsL; rw [List.map_set]
    rw [hse] at hst
    have hlen4 : ((wordsL s).set k (zeroS y)).length = 7 := by rw [List.length_set]; exact HL.out
    have hn4 := World.ownsRow_lit (base := w5.heap.size) (e := 9) (size := 1) w5 #[.string r1, .string (s ++ ⟨#[32]⟩), .string (s ++ ⟨#[32, 49]⟩), .string (⟨#[32]⟩ ++ s)] 4 (Nat.le_refl _) (by decide) rfl
    have hBw5 : Bw < w5.heap.size := (HR3.out.lt Bw rfl).2
    have hn5 := Lib.hid (ownsRow_setCell_below hn4 (a := ⟨Bw, k, none⟩) hBw5 (.string (zeroS y)))
    have c4 : Below w.heap.size w ((w5.alloc (.cells #[.string r1, .string (s ++ ⟨#[32]⟩), .string (s ++ ⟨#[32, 49]⟩), .string (⟨#[32]⟩ ++ s)] 9)).setCell ⟨Bw, k, none⟩ (.string (zeroS y))) := (c3.alloc c3.size _).setCell (p := ⟨Bw, k, none⟩) hwz _
    have h5s := c3.size
    refine (join_at ((wordsL s).set k (zeroS y)) 7 7 Bw _ (by rw [hlen4]; decide) (by decide) (row_at hst hlen4) ((hst.lt Bw rfl).2) (by decide) r4 ⟨#[32]⟩ (by rw [List.take_of_length_le (by rw [hlen4]; decide)]; exact HR4.out) (by omega)).mono ?_
    rintro e w6 ⟨rfl, b1⟩
    have hn6 := Lib.hid (own_below hn5.out b1)
    have c6 := c4.trans (b1.mono c4.size)
    have hlt6 : w5.heap.size ≤ w6.heap.size := by
      have := b1.size
      have h8 : ((w5.alloc (.cells #[.string r1, .string (s ++ ⟨#[32]⟩), .string (s ++ ⟨#[32, 49]⟩), .string (⟨#[32]⟩ ++ s)] 9)).setCell ⟨Bw, k, none⟩ (.string (zeroS y))).heap.size = w5.heap.size + 1 := by
        show (Array.modify _ _ _).size = _
        rw [Array.size_modify]
        exact World.size_alloc _ _
      omega
    clear hst hn4 hn5 b1 hse hcur hfr HR3 c3 c4
    go_wp2_with (at_builtin; refine wpList_append_own _ rfl (.tmp 80) (.tmp 83) 41 rfl w5.heap.size 9 i0 (.string ⟨#[]⟩) 1 16 Tryd.underlying41 hi0 hz0 hz1 hz2 rfl (by decide) _ _ _ rfl (hn6.out.alloc _) ⟨w6.heap.size, 0, none⟩ 1 1 [.string r4] rfl rfl (cell_one_new _ _ _) (fun q hq => by simp at hq; subst hq; rfl) (by decide) (by omega) (by have := c6.size; simp; omega) ?_)
    intro v' w7 hown hgrow _
    obtain ⟨g, cap, rfl, _, _⟩ := hown.form (by decide)
    have c7 : Below w.heap.size w w7 := (c6.alloc c6.size _).grown hgrow (by have := c6.size; simp; omega) (fun j hj => Nat.le_trans h5s (hn6.out.lt j hj).1)
    have hcells : Hid (∀ j, j < 5 → w7.cell? ⟨g, j, none⟩ = some (.string ([r1, s ++ ⟨#[32]⟩, s ++ ⟨#[32, 49]⟩, ⟨#[32]⟩ ++ s, r4].getD j ⟨#[]⟩))) := by
      have h9 := row_at (xs := [r1, s ++ ⟨#[32]⟩, s ++ ⟨#[32, 49]⟩, ⟨#[32]⟩ ++ s, r4]) hown rfl
      exact h9
    clear hown hgrow hn6 c6
    go_wp2_with fail
    go_loopw [87] (fun vi wr => ∃ i : Nat, i ≤ 5 ∧ vi = .int .i64 i ∧ Hid (∀ j, j < 5 → wr.cell? ⟨g, j, none⟩ = some (.string ([r1, s ++ ⟨#[32]⟩, s ++ ⟨#[32, 49]⟩, ⟨#[32]⟩ ++ s, r4].getD j ⟨#[]⟩))) ∧ Below w.heap.size w wr) (fun vi _ => 5 - (intOf vi).toNat)
    case atStart => exact ⟨0, by decide, rfl, hcells, c7⟩
    case round =>
      clear hcells c7
      obtain ⟨i, hi, rfl, hcl, c8⟩ := hrel
      by_cases hlt : i < 5
      · obtain ⟨q, hq⟩ : ∃ q, [r1, s ++ ⟨#[32]⟩, s ++ ⟨#[32, 49]⟩, ⟨#[32]⟩ ++ s, r4].getD i ⟨#[]⟩ = q := ⟨_, rfl⟩
        have hcc := hcl.out i hlt
        have hbd := HBAD.out i hlt
        rw [hq] at hcc hbd
        have HBD := Lib.hid hbd
        clear hq hbd
        go_wp2_with fail
        refine (parse_is q HBD.out.2 cfg0 8 (Or.inr ⟨HBD.out.1, rfl, rfl⟩) m _ (HT.out.below c8) (cell_kept HM.out c8)).mono ?_
        rintro e w9 ⟨rfl, b1⟩
        obtain ⟨z0, z1, z2, z3, z4, z5, z6⟩ := cfgAt_new w9 0 0 0 0 0 0 0 23
        have c9 := c8.trans (b1.mono c8.size)
        have c10 := c9.alloc c9.size (.cells #[.int .i64 0, .int .i64 0, .int .i64 0, .int .i64 0, .int .i64 0, .int .i64 0, .int .i64 0] 23)
        have hcl2 : Hid (∀ j, j < 5 → (w9.alloc (.cells #[.int .i64 0, .int .i64 0, .int .i64 0, .int .i64 0, .int .i64 0, .int .i64 0, .int .i64 0] 23)).cell? ⟨g, j, none⟩ = some (.string ([r1, s ++ ⟨#[32]⟩, s ++ ⟨#[32, 49]⟩, ⟨#[32]⟩ ++ s, r4].getD j ⟨#[]⟩))) := fun j hj => cell_old (cell_kept (hcl.out j hj) b1)
        clear b1 c8 c9 hcl hcc
        go_wp2_with fail
        go_roundw
        case rel => exact ⟨i + 1, by omega, by go_num, hcl2, c10⟩
        case measure => simp [intOf]; omega
      · obtain rfl : i = 5 := by omega
        go_wp2_with fail
        refine (works_any m _ (HT.out.below c8) (cell_kept HM.out c8)).mono ?_
        rintro y w3 ⟨rfl, b1⟩
        have c9 := c8.trans (b1.mono c8.size)
        clear b1 c8
        go_wp2_with fail
        go_ret
        exact ⟨rfl, c9⟩
end Go.Proofs.YtllgnogiicdhfaaDoor
