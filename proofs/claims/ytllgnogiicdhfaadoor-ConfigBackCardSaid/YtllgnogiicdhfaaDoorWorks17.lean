/-
  The examples of layer 17 hold.
  Conditions: the library's tables lie in the world.
-/
import Derived.Test.YtllgnogiicdhfaaDoorCfg11
set_option linter.unusedVariables false
namespace Go.Proofs.YtllgnogiicdhfaaDoor
open Go Go.RowKit

theorem parse_is (s : ByteArray) (hs : s.size ≤ 1000000) (x : Value) (e : Int) (h : (goodW (wordsL s) ∧ cfgOf (wordsL s) = x ∧ e = 0) ∨ (¬ goodW (wordsL s) ∧ x = cfg0 ∧ e = 8)) (m : Int) (w : World) (ht : Tab w) (hm : w.cell? ⟨0, 0, none⟩ = some (.int .i64 m)) :
    Calls Tryd.prog 23 #[.string s] w fun y w' => y = .returned (.tuple #[x, .int .i64 e]) ∧ Below w.heap.size w w' := by
  refine (cParse_any s hs m w ht hm).mono ?_
  rintro y w' ⟨hy, hb⟩
  refine ⟨?_, hb⟩
  rcases h with ⟨h1, h2, h3⟩ | ⟨h1, h2, h3⟩
  · rcases hy with ⟨_, hy⟩ | ⟨hy, _⟩
    · rw [hy, h2, h3]
    · exact absurd h1 hy
  · rcases hy with ⟨hy, _⟩ | ⟨_, hy⟩
    · exact absurd hy h1
    · rw [hy, h2, h3]
theorem rparse_is (s : ByteArray) (hs : s.size ≤ 1000000) (x : Value) (e : Int) (h : (goodW (wordsL s) ∧ cfgOf (wordsL s) = x ∧ e = 0) ∨ (¬ goodW (wordsL s) ∧ x = cfg0 ∧ e = 8)) (w : World) :
    Calls Tryd.prog 24 #[.string s] w fun y w' => y = .returned (.tuple #[x, .int .i64 e]) ∧ Below w.heap.size w w' := by
  refine (rParse_any s hs w).mono ?_
  rintro y w' ⟨hy, hb⟩
  refine ⟨?_, hb⟩
  rcases h with ⟨h1, h2, h3⟩ | ⟨h1, h2, h3⟩
  · rcases hy with ⟨_, hy⟩ | ⟨hy, _⟩
    · rw [hy, h2, h3]
    · exact absurd h1 hy
  · rcases hy with ⟨hy, _⟩ | ⟨_, hy⟩
    · exact absurd hy h1
    · rw [hy, h2, h3]
theorem parse_case (s : ByteArray) : ∃ (S Z R W K V P e : Int), (goodW (wordsL s) ∧ cfgOf (wordsL s) = cfgV S Z R W K V P ∧ e = 0) ∨ (¬ goodW (wordsL s) ∧ cfgV S Z R W K V P = cfg0 ∧ e = 8) := by
  by_cases h : goodW (wordsL s)
  · exact ⟨_, _, _, _, _, _, _, 0, Or.inl ⟨h, rfl, rfl⟩⟩
  · exact ⟨0, 0, 0, 0, 0, 0, 0, 8, Or.inr ⟨h, rfl, rfl⟩⟩
abbrev text8S : ByteArray := ⟨#[56, 32, 51, 48, 48, 32, 50, 32, 50, 48, 48, 32, 56, 32, 52, 48, 32, 103, 114, 101, 101, 100, 121]⟩
abbrev text7S : ByteArray := ⟨#[56, 32, 51, 48, 48, 32, 50, 32, 50, 48, 48, 32, 56, 32, 52, 48]⟩
theorem text8 : text8S.data.toList = textL 8 300 2 200 8 40 1 := by
  have e : digW [8, 300, 2, 200, 8, 40] 6 = [⟨#[56]⟩, ⟨#[51, 48, 48]⟩, ⟨#[50]⟩, ⟨#[50, 48, 48]⟩, ⟨#[56]⟩, ⟨#[52, 48]⟩] := by
    simp [digW, digS, Lib.decDigits, List.range_succ]
  unfold textL
  rw [e]
  decide +kernel
theorem bad7 : ¬ goodW (wordsL text7S) := by
  intro h
  have h1 := h.1
  have h2 : ((wordsL text7S).map (·.data.toList)).length = 7 := by rw [List.length_map]; exact h1
  rw [wordsL_data] at h2
  have h3 : (wl text7S.data.toList).length = 6 := by decide +kernel
  omega
theorem eight_any (w : World) : Calls Tryd.prog 36 #[] w fun e w' => e = .returned (cfgV 8 300 2 200 8 40 1) ∧ Below w.heap.size w w' := by
  go_enter Tryd.func36, Tryd.ntmps36
  go_wp2_with fail
  have hk := cfgAt_new w 8 300 2 200 8 40 1 23
  obtain ⟨k0, k1, k2, k3, k4, k5, k6⟩ := hk
  refine bodyPost_ret (v := cfgV 8 300 2 200 8 40 1) (by simp [results, Tryd.results36, go_sem, k0, k1, k2, k3, k4, k5, k6]) rfl ⟨rfl, (Below.refl _ _).alloc (Nat.le_refl _) _⟩

set_option maxRecDepth 100000 in
set_option maxHeartbeats 8000000 in
theorem works_any (m : Int) (w : World) (ht : Tab w) (hm : w.cell? ⟨0, 0, none⟩ = some (.int .i64 m)) :
    Calls Tryd.prog 20 #[] w fun e w' => e = .returned (.bool true) ∧ Below w.heap.size w w' := by
  have HT := Lib.hid ht
  have HM := Lib.hid hm
  clear ht hm
  have hE : cfgE 8 300 2 200 8 40 1 = 0 := by decide
  have hE3 : cfgE 3 300 2 200 8 40 1 = 2 := by decide
  have HE := Lib.hid hE
  have HE3 := Lib.hid hE3
  clear hE hE3
  go_enter Tryd.func20, Tryd.ntmps20
  go_wp2_with fail
  refine (eight_any _).mono ?_
  rintro e w1 ⟨rfl, c1⟩
  go_wp2_with fail
  have hk := cfgAt_new w1 8 300 2 200 8 40 1 23
  obtain ⟨k0, k1, k2, k3, k4, k5, k6⟩ := hk
  have c2 := c1.alloc c1.size (.cells #[.int .i64 8, .int .i64 300, .int .i64 2, .int .i64 200, .int .i64 8, .int .i64 40, .int .i64 1] 23); clear c1
  have c1 := c2; clear c2
  refine (cRecord_any 8 300 2 200 8 40 1 _ 64 0 (Or.inl ⟨by decide, rfl, HE.out⟩)).mono ?_
  rintro e w2 ⟨rfl, b1⟩
  replace k0 := cell_kept k0 b1
  replace k1 := cell_kept k1 b1
  replace k2 := cell_kept k2 b1
  replace k3 := cell_kept k3 b1
  replace k4 := cell_kept k4 b1
  replace k5 := cell_kept k5 b1
  replace k6 := cell_kept k6 b1
  have c2 := c1.trans (b1.mono c1.size); clear c1 b1
  have c1 := c2; clear c2
  go_wp2_with fail
  refine (cRoom_any 8 300 2 200 8 40 1 _ 284 0 (Or.inl ⟨by decide, rfl, HE.out⟩)).mono ?_
  rintro e w3 ⟨rfl, b1⟩
  replace k0 := cell_kept k0 b1
  replace k1 := cell_kept k1 b1
  replace k2 := cell_kept k2 b1
  replace k3 := cell_kept k3 b1
  replace k4 := cell_kept k4 b1
  replace k5 := cell_kept k5 b1
  replace k6 := cell_kept k6 b1
  have c2 := c1.trans (b1.mono c1.size); clear c1 b1
  have c1 := c2; clear c2
  go_wp2_with fail
  refine (cLimit_any 8 300 2 200 8 40 1 _ 568 0 (Or.inl ⟨by decide, rfl, HE.out⟩)).mono ?_
  rintro e w4 ⟨rfl, b1⟩
  replace k0 := cell_kept k0 b1
  replace k1 := cell_kept k1 b1
  replace k2 := cell_kept k2 b1
  replace k3 := cell_kept k3 b1
  replace k4 := cell_kept k4 b1
  replace k5 := cell_kept k5 b1
  replace k6 := cell_kept k6 b1
  have c2 := c1.trans (b1.mono c1.size); clear c1 b1
  have c1 := c2; clear c2
  go_wp2_with fail
  refine (cSlices_any 8 300 2 200 8 40 1 _ 7 0 (Or.inl ⟨by decide, rfl, HE.out⟩)).mono ?_
  rintro e w5 ⟨rfl, b1⟩
  replace k0 := cell_kept k0 b1
  replace k1 := cell_kept k1 b1
  replace k2 := cell_kept k2 b1
  replace k3 := cell_kept k3 b1
  replace k4 := cell_kept k4 b1
  replace k5 := cell_kept k5 b1
  replace k6 := cell_kept k6 b1
  have c2 := c1.trans (b1.mono c1.size); clear c1 b1
  have c1 := c2; clear c2
  go_wp2_with fail
  refine (cText_any 8 300 2 200 8 40 1 _ (HT.out.below c1) text8S 0 (Or.inl ⟨text8, rfl, HE.out⟩)).mono ?_
  rintro e w6 ⟨rfl, b1⟩
  replace k0 := cell_kept k0 b1
  replace k1 := cell_kept k1 b1
  replace k2 := cell_kept k2 b1
  replace k3 := cell_kept k3 b1
  replace k4 := cell_kept k4 b1
  replace k5 := cell_kept k5 b1
  replace k6 := cell_kept k6 b1
  have c2 := c1.trans (b1.mono c1.size); clear c1 b1
  have c1 := c2; clear c2
  go_wp2_with fail
  refine (parse_is text8S (by decide) (cfgV 8 300 2 200 8 40 1) 0 (Or.inl ⟨(text_good HE.out text8).1, (text_good HE.out text8).2, rfl⟩) m _ (HT.out.below c1) (cell_kept HM.out c1)).mono ?_
  rintro e w7 ⟨rfl, b1⟩
  replace k0 := cell_kept k0 b1
  replace k1 := cell_kept k1 b1
  replace k2 := cell_kept k2 b1
  replace k3 := cell_kept k3 b1
  replace k4 := cell_kept k4 b1
  replace k5 := cell_kept k5 b1
  replace k6 := cell_kept k6 b1
  have c2 := c1.trans (b1.mono c1.size); clear c1 b1
  have c1 := c2; clear c2
  go_wp2_with fail
  have hn := cfgAt_new w7 8 300 2 200 8 40 1 23
  obtain ⟨m0, m1, m2, m3, m4, m5, m6⟩ := hn
  replace k0 := cell_old (o := (.cells #[.int .i64 8, .int .i64 300, .int .i64 2, .int .i64 200, .int .i64 8, .int .i64 40, .int .i64 1] 23)) k0
  replace k1 := cell_old (o := (.cells #[.int .i64 8, .int .i64 300, .int .i64 2, .int .i64 200, .int .i64 8, .int .i64 40, .int .i64 1] 23)) k1
  replace k2 := cell_old (o := (.cells #[.int .i64 8, .int .i64 300, .int .i64 2, .int .i64 200, .int .i64 8, .int .i64 40, .int .i64 1] 23)) k2
  replace k3 := cell_old (o := (.cells #[.int .i64 8, .int .i64 300, .int .i64 2, .int .i64 200, .int .i64 8, .int .i64 40, .int .i64 1] 23)) k3
  replace k4 := cell_old (o := (.cells #[.int .i64 8, .int .i64 300, .int .i64 2, .int .i64 200, .int .i64 8, .int .i64 40, .int .i64 1] 23)) k4
  replace k5 := cell_old (o := (.cells #[.int .i64 8, .int .i64 300, .int .i64 2, .int .i64 200, .int .i64 8, .int .i64 40, .int .i64 1] 23)) k5
  replace k6 := cell_old (o := (.cells #[.int .i64 8, .int .i64 300, .int .i64 2, .int .i64 200, .int .i64 8, .int .i64 40, .int .i64 1] 23)) k6
  have c2 := c1.alloc c1.size (.cells #[.int .i64 8, .int .i64 300, .int .i64 2, .int .i64 200, .int .i64 8, .int .i64 40, .int .i64 1] 23); clear c1
  have c1 := c2; clear c2
  refine (parse_is text7S (by decide) cfg0 8 (Or.inr ⟨bad7, rfl, rfl⟩) m _ (HT.out.below c1) (cell_kept HM.out c1)).mono ?_
  rintro e w8 ⟨rfl, b1⟩
  replace m0 := cell_kept m0 b1
  replace m1 := cell_kept m1 b1
  replace m2 := cell_kept m2 b1
  replace m3 := cell_kept m3 b1
  replace m4 := cell_kept m4 b1
  replace m5 := cell_kept m5 b1
  replace m6 := cell_kept m6 b1
  replace k0 := cell_kept k0 b1
  replace k1 := cell_kept k1 b1
  replace k2 := cell_kept k2 b1
  replace k3 := cell_kept k3 b1
  replace k4 := cell_kept k4 b1
  replace k5 := cell_kept k5 b1
  replace k6 := cell_kept k6 b1
  have c2 := c1.trans (b1.mono c1.size); clear c1 b1
  have c1 := c2; clear c2
  replace k0 := cell_old (o := (.cells #[.int .i64 0, .int .i64 0, .int .i64 0, .int .i64 0, .int .i64 0, .int .i64 0, .int .i64 0] 23)) k0
  replace k1 := cell_old (o := (.cells #[.int .i64 0, .int .i64 0, .int .i64 0, .int .i64 0, .int .i64 0, .int .i64 0, .int .i64 0] 23)) k1
  replace k2 := cell_old (o := (.cells #[.int .i64 0, .int .i64 0, .int .i64 0, .int .i64 0, .int .i64 0, .int .i64 0, .int .i64 0] 23)) k2
  replace k3 := cell_old (o := (.cells #[.int .i64 0, .int .i64 0, .int .i64 0, .int .i64 0, .int .i64 0, .int .i64 0, .int .i64 0] 23)) k3
  replace k4 := cell_old (o := (.cells #[.int .i64 0, .int .i64 0, .int .i64 0, .int .i64 0, .int .i64 0, .int .i64 0, .int .i64 0] 23)) k4
  replace k5 := cell_old (o := (.cells #[.int .i64 0, .int .i64 0, .int .i64 0, .int .i64 0, .int .i64 0, .int .i64 0, .int .i64 0] 23)) k5
  replace k6 := cell_old (o := (.cells #[.int .i64 0, .int .i64 0, .int .i64 0, .int .i64 0, .int .i64 0, .int .i64 0, .int .i64 0] 23)) k6
  have c2 := c1.alloc c1.size (.cells #[.int .i64 0, .int .i64 0, .int .i64 0, .int .i64 0, .int .i64 0, .int .i64 0, .int .i64 0] 23); clear c1
  have c1 := c2; clear c2
  replace m0 := cell_old (o := .cells #[.int .i64 0, .int .i64 0, .int .i64 0, .int .i64 0, .int .i64 0, .int .i64 0, .int .i64 0] 23) m0
  replace m1 := cell_old (o := .cells #[.int .i64 0, .int .i64 0, .int .i64 0, .int .i64 0, .int .i64 0, .int .i64 0, .int .i64 0] 23) m1
  replace m2 := cell_old (o := .cells #[.int .i64 0, .int .i64 0, .int .i64 0, .int .i64 0, .int .i64 0, .int .i64 0, .int .i64 0] 23) m2
  replace m3 := cell_old (o := .cells #[.int .i64 0, .int .i64 0, .int .i64 0, .int .i64 0, .int .i64 0, .int .i64 0, .int .i64 0] 23) m3
  replace m4 := cell_old (o := .cells #[.int .i64 0, .int .i64 0, .int .i64 0, .int .i64 0, .int .i64 0, .int .i64 0, .int .i64 0] 23) m4
  replace m5 := cell_old (o := .cells #[.int .i64 0, .int .i64 0, .int .i64 0, .int .i64 0, .int .i64 0, .int .i64 0, .int .i64 0] 23) m5
  replace m6 := cell_old (o := .cells #[.int .i64 0, .int .i64 0, .int .i64 0, .int .i64 0, .int .i64 0, .int .i64 0, .int .i64 0] 23) m6
  have kb0 := cell_old (o := (.cells #[.int .i64 3, .int .i64 300, .int .i64 2, .int .i64 200, .int .i64 8, .int .i64 40, .int .i64 1] 23)) k0
  have kb1 := cell_old (o := (.cells #[.int .i64 3, .int .i64 300, .int .i64 2, .int .i64 200, .int .i64 8, .int .i64 40, .int .i64 1] 23)) k1
  have kb2 := cell_old (o := (.cells #[.int .i64 3, .int .i64 300, .int .i64 2, .int .i64 200, .int .i64 8, .int .i64 40, .int .i64 1] 23)) k2
  have kb3 := cell_old (o := (.cells #[.int .i64 3, .int .i64 300, .int .i64 2, .int .i64 200, .int .i64 8, .int .i64 40, .int .i64 1] 23)) k3
  have kb4 := cell_old (o := (.cells #[.int .i64 3, .int .i64 300, .int .i64 2, .int .i64 200, .int .i64 8, .int .i64 40, .int .i64 1] 23)) k4
  have kb5 := cell_old (o := (.cells #[.int .i64 3, .int .i64 300, .int .i64 2, .int .i64 200, .int .i64 8, .int .i64 40, .int .i64 1] 23)) k5
  have kb6 := cell_old (o := (.cells #[.int .i64 3, .int .i64 300, .int .i64 2, .int .i64 200, .int .i64 8, .int .i64 40, .int .i64 1] 23)) k6
  have mb0 := cell_old (o := (.cells #[.int .i64 3, .int .i64 300, .int .i64 2, .int .i64 200, .int .i64 8, .int .i64 40, .int .i64 1] 23)) m0
  have mb1 := cell_old (o := (.cells #[.int .i64 3, .int .i64 300, .int .i64 2, .int .i64 200, .int .i64 8, .int .i64 40, .int .i64 1] 23)) m1
  have mb2 := cell_old (o := (.cells #[.int .i64 3, .int .i64 300, .int .i64 2, .int .i64 200, .int .i64 8, .int .i64 40, .int .i64 1] 23)) m2
  have mb3 := cell_old (o := (.cells #[.int .i64 3, .int .i64 300, .int .i64 2, .int .i64 200, .int .i64 8, .int .i64 40, .int .i64 1] 23)) m3
  have mb4 := cell_old (o := (.cells #[.int .i64 3, .int .i64 300, .int .i64 2, .int .i64 200, .int .i64 8, .int .i64 40, .int .i64 1] 23)) m4
  have mb5 := cell_old (o := (.cells #[.int .i64 3, .int .i64 300, .int .i64 2, .int .i64 200, .int .i64 8, .int .i64 40, .int .i64 1] 23)) m5
  have mb6 := cell_old (o := (.cells #[.int .i64 3, .int .i64 300, .int .i64 2, .int .i64 200, .int .i64 8, .int .i64 40, .int .i64 1] 23)) m6
  obtain ⟨n0, n1, n2, n3, n4, n5, n6⟩ := cfgAt_new (w8.alloc (.cells #[.int .i64 0, .int .i64 0, .int .i64 0, .int .i64 0, .int .i64 0, .int .i64 0, .int .i64 0] 23)) 3 300 2 200 8 40 1 23
  have c2 := c1.alloc c1.size (.cells #[.int .i64 3, .int .i64 300, .int .i64 2, .int .i64 200, .int .i64 8, .int .i64 40, .int .i64 1] 23)
  go_wp2_with fail
  refine (check_any 3 300 2 200 8 40 1 _).mono ?_
  rw [HE3.out]
  rintro e w9 ⟨rfl, b1⟩
  have c3 := c2.trans (b1.mono c2.size)
  clear b1 c1 c2
  go_wp2_with fail
  go_ret
  exact ⟨rfl, c3⟩
end Go.Proofs.YtllgnogiicdhfaaDoor
