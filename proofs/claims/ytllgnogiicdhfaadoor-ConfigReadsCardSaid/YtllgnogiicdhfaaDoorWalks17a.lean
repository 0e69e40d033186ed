/-
  Configurations: the laws on what follows from a configuration, on texts, and on what is read.
  Conditions: the library's tables lie in the world.
-/
import Derived.Test.YtllgnogiicdhfaaDoorWorks17
set_option linter.unusedVariables false
namespace Go.Proofs.YtllgnogiicdhfaaDoor
open Go Go.RowKit

/-- What the functions return of a configuration. -/
theorem cfg_all (S Z R W K V P : Int) : ∃ (r o l n e : Int) (t : ByteArray), (e = 0 ∨ e = 2) ∧ cfgE S Z R W K V P = e ∧
    ((r = 16 + K + V ∧ e = 0 ∧ cfgE S Z R W K V P = 0) ∨ (r = 0 ∧ e = 2 ∧ cfgE S Z R W K V P = 2)) ∧
    ((o = Z - 16 ∧ e = 0 ∧ cfgE S Z R W K V P = 0) ∨ (o = 0 ∧ e = 2 ∧ cfgE S Z R W K V P = 2)) ∧
    ((l = limV S Z R ∧ e = 0 ∧ cfgE S Z R W K V P = 0) ∨ (l = 0 ∧ e = 2 ∧ cfgE S Z R W K V P = 2)) ∧
    ((n = slV Z W ∧ e = 0 ∧ cfgE S Z R W K V P = 0) ∨ (n = 0 ∧ e = 2 ∧ cfgE S Z R W K V P = 2)) ∧
    ((t.data.toList = textL S Z R W K V P ∧ e = 0 ∧ cfgE S Z R W K V P = 0) ∨ (t = ⟨#[]⟩ ∧ e = 2 ∧ cfgE S Z R W K V P = 2)) := by
  rcases cfg_cases S Z R W K V P with ⟨h, _⟩ | h
  · exact ⟨_, _, _, _, 0, pack (textL S Z R W K V P), Or.inl rfl, h, Or.inl ⟨rfl, rfl, h⟩, Or.inl ⟨rfl, rfl, h⟩, Or.inl ⟨rfl, rfl, h⟩, Or.inl ⟨rfl, rfl, h⟩, Or.inl ⟨pack_data _, rfl, h⟩⟩
  · exact ⟨0, 0, 0, 0, 2, ⟨#[]⟩, Or.inr rfl, h, Or.inr ⟨rfl, rfl, h⟩, Or.inr ⟨rfl, rfl, h⟩, Or.inr ⟨rfl, rfl, h⟩, Or.inr ⟨rfl, rfl, h⟩, Or.inr ⟨rfl, rfl, h⟩⟩

set_option maxRecDepth 100000 in
set_option maxHeartbeats 8000000 in
theorem walkConfigChecks (S Z R W K V P m : Int) (w : World) (ht : Tab w) (hm : w.cell? ⟨0, 0, none⟩ = some (.int .i64 m)) :
    Calls Tryd.prog 3 #[cfgV S Z R W K V P] w fun e w' => e = .returned (.bool true) ∧ Below w.heap.size w w' := by
  have HT := Lib.hid ht
  have HM := Lib.hid hm
  clear ht hm
  obtain ⟨r, o, l, n, e, t, _, he, h1, h2, h3, h4, h5⟩ := cfg_all S Z R W K V P
  have HE := Lib.hid he
  have H1 := Lib.hid h1
  have H2 := Lib.hid h2
  have H3 := Lib.hid h3
  have H4 := Lib.hid h4
  clear he h1 h2 h3 h4 h5
  obtain ⟨k0, k1, k2, k3, k4, k5, k6⟩ := cfgAt_new w S Z R W K V P 23
  have c1 : Below w.heap.size w (w.alloc (.cells #[.int .i64 S, .int .i64 Z, .int .i64 R, .int .i64 W, .int .i64 K, .int .i64 V, .int .i64 P] 23)) := (Below.refl _ _).alloc (Nat.le_refl _) _
  go_enter Tryd.func3, Tryd.ntmps3
  go_wp2_with fail
  refine (cRecord_any S Z R W K V P _ r e H1.out).mono ?_
  rintro y w1 ⟨rfl, b1⟩
  replace k0 := cell_kept k0 b1
  replace k1 := cell_kept k1 b1
  replace k2 := cell_kept k2 b1
  replace k3 := cell_kept k3 b1
  replace k4 := cell_kept k4 b1
  replace k5 := cell_kept k5 b1
  replace k6 := cell_kept k6 b1
  have c2 := c1.trans (b1.mono c1.size); clear c1 b1
  have c1 := c2; clear c2
  go_wp2_with fail
  refine (rRecord_any S Z R W K V P _ r e H1.out).mono ?_
  rintro y w1 ⟨rfl, b1⟩
  replace k0 := cell_kept k0 b1
  replace k1 := cell_kept k1 b1
  replace k2 := cell_kept k2 b1
  replace k3 := cell_kept k3 b1
  replace k4 := cell_kept k4 b1
  replace k5 := cell_kept k5 b1
  replace k6 := cell_kept k6 b1
  have c2 := c1.trans (b1.mono c1.size); clear c1 b1
  have c1 := c2; clear c2
  go_wp2_with fail
  refine (cRoom_any S Z R W K V P _ o e H2.out).mono ?_
  rintro y w1 ⟨rfl, b1⟩
  replace k0 := cell_kept k0 b1
  replace k1 := cell_kept k1 b1
  replace k2 := cell_kept k2 b1
  replace k3 := cell_kept k3 b1
  replace k4 := cell_kept k4 b1
  replace k5 := cell_kept k5 b1
  replace k6 := cell_kept k6 b1
  have c2 := c1.trans (b1.mono c1.size); clear c1 b1
  have c1 := c2; clear c2
  go_wp2_with fail
  refine (rRoom_any S Z R W K V P _ o e H2.out).mono ?_
  rintro y w1 ⟨rfl, b1⟩
  replace k0 := cell_kept k0 b1
  replace k1 := cell_kept k1 b1
  replace k2 := cell_kept k2 b1
  replace k3 := cell_kept k3 b1
  replace k4 := cell_kept k4 b1
  replace k5 := cell_kept k5 b1
  replace k6 := cell_kept k6 b1
  have c2 := c1.trans (b1.mono c1.size); clear c1 b1
  have c1 := c2; clear c2
  go_wp2_with fail
  refine (cLimit_any S Z R W K V P _ l e H3.out).mono ?_
  rintro y w1 ⟨rfl, b1⟩
  replace k0 := cell_kept k0 b1
  replace k1 := cell_kept k1 b1
  replace k2 := cell_kept k2 b1
  replace k3 := cell_kept k3 b1
  replace k4 := cell_kept k4 b1
  replace k5 := cell_kept k5 b1
  replace k6 := cell_kept k6 b1
  have c2 := c1.trans (b1.mono c1.size); clear c1 b1
  have c1 := c2; clear c2
  go_wp2_with fail
  refine (rLimit_any S Z R W K V P _ l e H3.out).mono ?_
  rintro y w1 ⟨rfl, b1⟩
  replace k0 := cell_kept k0 b1
  replace k1 := cell_kept k1 b1
  replace k2 := cell_kept k2 b1
  replace k3 := cell_kept k3 b1
  replace k4 := cell_kept k4 b1
  replace k5 := cell_kept k5 b1
  replace k6 := cell_kept k6 b1
  have c2 := c1.trans (b1.mono c1.size); clear c1 b1
  have c1 := c2; clear c2
  go_wp2_with fail
  refine (cSlices_any S Z R W K V P _ n e H4.out).mono ?_
  rintro y w1 ⟨rfl, b1⟩
  replace k0 := cell_kept k0 b1
  replace k1 := cell_kept k1 b1
  replace k2 := cell_kept k2 b1
  replace k3 := cell_kept k3 b1
  replace k4 := cell_kept k4 b1
  replace k5 := cell_kept k5 b1
  replace k6 := cell_kept k6 b1
  have c2 := c1.trans (b1.mono c1.size); clear c1 b1
  have c1 := c2; clear c2
  go_wp2_with fail
  refine (rSlices_any S Z R W K V P _ n e H4.out).mono ?_
  rintro y w1 ⟨rfl, b1⟩
  replace k0 := cell_kept k0 b1
  replace k1 := cell_kept k1 b1
  replace k2 := cell_kept k2 b1
  replace k3 := cell_kept k3 b1
  replace k4 := cell_kept k4 b1
  replace k5 := cell_kept k5 b1
  replace k6 := cell_kept k6 b1
  have c2 := c1.trans (b1.mono c1.size); clear c1 b1
  have c1 := c2; clear c2
  go_wp2_with fail
  go_region_held3 (fun w' => w'.cell? ⟨w.heap.size, 0, none⟩ = some (.int .i64 S) ∧ w'.cell? ⟨w.heap.size, 1, none⟩ = some (.int .i64 Z) ∧ w'.cell? ⟨w.heap.size, 2, none⟩ = some (.int .i64 R) ∧ w'.cell? ⟨w.heap.size, 3, none⟩ = some (.int .i64 W) ∧
      w'.cell? ⟨w.heap.size, 4, none⟩ = some (.int .i64 K) ∧ w'.cell? ⟨w.heap.size, 5, none⟩ = some (.int .i64 V) ∧ w'.cell? ⟨w.heap.size, 6, none⟩ = some (.int .i64 P) ∧ Below w.heap.size w w')
    (first
      | exact ⟨k0, k1, k2, k3, k4, k5, k6, c1.drew⟩
      | exact ⟨by assumption, by assumption, by assumption, by assumption, by assumption, by assumption, by assumption, by assumption⟩
      | (go_split_ands; exact ⟨cell_kept (by assumption) b1, cell_kept (by assumption) b1, cell_kept (by assumption) b1, cell_kept (by assumption) b1, cell_kept (by assumption) b1, cell_kept (by assumption) b1, cell_kept (by assumption) b1, Below.trans (by assumption) (b1.mono (Below.size (by assumption)))⟩))
    (first
      | (go_at_call 18; refine (check_any S Z R W K V P _).mono ?_; rw [HE.out]; rintro y w2 ⟨rfl, b1⟩)
      | (go_at_call 19; refine (rcheck_any S Z R W K V P _).mono ?_; rw [HE.out]; rintro y w2 ⟨rfl, b1⟩)
      | (go_at_call 20; go_split_ands; refine (works_any m _ (HT.out.below (by assumption)) (cell_kept HM.out (by assumption))).mono ?_; rintro y w2 ⟨rfl, b1⟩))
  go_split_ands
  go_wp2_with fail
  go_ret
  exact ⟨rfl, by assumption⟩

set_option maxRecDepth 100000 in
set_option maxHeartbeats 8000000 in
theorem walkConfigTexts (S Z R W K V P : Int) (s : ByteArray) (m : Int) (w : World) (ht : Tab w) (hm : w.cell? ⟨0, 0, none⟩ = some (.int .i64 m)) :
    Calls Tryd.prog 4 #[cfgV S Z R W K V P, .string s] w fun e w' => e = .returned (.bool true) ∧ Below w.heap.size w w' := by
  have HT := Lib.hid ht
  have HM := Lib.hid hm
  clear ht hm
  by_cases hs : s.size ≤ 1000
  · have d1 : decide ((1000 : Int) < (s.size : Int)) = false := by rw [decide_eq_false_iff_not]; omega
    obtain ⟨r, o, l, n, e, t, _, he, h1, h2, h3, h4, h5⟩ := cfg_all S Z R W K V P
    have H5 := Lib.hid h5
    have HS : Hid (s.size ≤ 1000000) := by show s.size ≤ 1000000; omega
    obtain ⟨S', Z', R', W', K', V', P', e', hp⟩ := parse_case s
    have HP := Lib.hid hp
    clear he h1 h2 h3 h4 h5 hs hp
    obtain ⟨k0, k1, k2, k3, k4, k5, k6⟩ := cfgAt_new w S Z R W K V P 23
    have c1 : Below w.heap.size w (w.alloc (.cells #[.int .i64 S, .int .i64 Z, .int .i64 R, .int .i64 W, .int .i64 K, .int .i64 V, .int .i64 P] 23)) := (Below.refl _ _).alloc (Nat.le_refl _) _
    go_enter Tryd.func4, Tryd.ntmps4
    go_wp2_with fail
    refine (cText_any S Z R W K V P _ (HT.out.below c1) t e H5.out).mono ?_
    rintro y w1 ⟨rfl, b1⟩
    replace k0 := cell_kept k0 b1
    replace k1 := cell_kept k1 b1
    replace k2 := cell_kept k2 b1
    replace k3 := cell_kept k3 b1
    replace k4 := cell_kept k4 b1
    replace k5 := cell_kept k5 b1
    replace k6 := cell_kept k6 b1
    have c2 := c1.trans (b1.mono c1.size); clear c1 b1
    have c1 := c2; clear c2
    go_wp2_with fail
    refine (rText_any S Z R W K V P _ t e H5.out).mono ?_
    rintro y w1 ⟨rfl, b1⟩
    replace k0 := cell_kept k0 b1
    replace k1 := cell_kept k1 b1
    replace k2 := cell_kept k2 b1
    replace k3 := cell_kept k3 b1
    replace k4 := cell_kept k4 b1
    replace k5 := cell_kept k5 b1
    replace k6 := cell_kept k6 b1
    have c2 := c1.trans (b1.mono c1.size); clear c1 b1
    have c1 := c2; clear c2
    clear k0 k1 k2 k3 k4 k5 k6
    go_wp2_with fail
    refine (parse_is s HS.out (cfgV S' Z' R' W' K' V' P') e' HP.out m _ (HT.out.below c1) (cell_kept HM.out c1)).mono ?_
    rintro y w1 ⟨rfl, b1⟩
    have c2 := c1.trans (b1.mono c1.size); clear c1 b1
    have c1 := c2; clear c2
    obtain ⟨m0, m1, m2, m3, m4, m5, m6⟩ := cfgAt_new w1 S' Z' R' W' K' V' P' 23
    have c2 := c1.alloc c1.size (.cells #[.int .i64 S', .int .i64 Z', .int .i64 R', .int .i64 W', .int .i64 K', .int .i64 V', .int .i64 P'] 23); clear c1
    have c1 := c2; clear c2
    go_wp2_with fail
    refine (rparse_is s HS.out (cfgV S' Z' R' W' K' V' P') e' HP.out _).mono ?_
    rintro y w2 ⟨rfl, b1⟩
    replace m0 := cell_kept m0 b1
    replace m1 := cell_kept m1 b1
    replace m2 := cell_kept m2 b1
    replace m3 := cell_kept m3 b1
    replace m4 := cell_kept m4 b1
    replace m5 := cell_kept m5 b1
    replace m6 := cell_kept m6 b1
    have c2 := c1.trans (b1.mono c1.size); clear c1 b1
    have c1 := c2; clear c2
    obtain ⟨n0, n1, n2, n3, n4, n5, n6⟩ := cfgAt_new w2 S' Z' R' W' K' V' P' 23
    replace m0 := cell_old (o := (.cells #[.int .i64 S', .int .i64 Z', .int .i64 R', .int .i64 W', .int .i64 K', .int .i64 V', .int .i64 P'] 23)) m0
    replace m1 := cell_old (o := (.cells #[.int .i64 S', .int .i64 Z', .int .i64 R', .int .i64 W', .int .i64 K', .int .i64 V', .int .i64 P'] 23)) m1
    replace m2 := cell_old (o := (.cells #[.int .i64 S', .int .i64 Z', .int .i64 R', .int .i64 W', .int .i64 K', .int .i64 V', .int .i64 P'] 23)) m2
    replace m3 := cell_old (o := (.cells #[.int .i64 S', .int .i64 Z', .int .i64 R', .int .i64 W', .int .i64 K', .int .i64 V', .int .i64 P'] 23)) m3
    replace m4 := cell_old (o := (.cells #[.int .i64 S', .int .i64 Z', .int .i64 R', .int .i64 W', .int .i64 K', .int .i64 V', .int .i64 P'] 23)) m4
    replace m5 := cell_old (o := (.cells #[.int .i64 S', .int .i64 Z', .int .i64 R', .int .i64 W', .int .i64 K', .int .i64 V', .int .i64 P'] 23)) m5
    replace m6 := cell_old (o := (.cells #[.int .i64 S', .int .i64 Z', .int .i64 R', .int .i64 W', .int .i64 K', .int .i64 V', .int .i64 P'] 23)) m6
    have c2 := c1.alloc c1.size (.cells #[.int .i64 S', .int .i64 Z', .int .i64 R', .int .i64 W', .int .i64 K', .int .i64 V', .int .i64 P'] 23); clear c1
    have c1 := c2; clear c2
    go_wp2_with fail
    refine (works_any m _ (HT.out.below c1) (cell_kept HM.out c1)).mono ?_
    rintro y w3 ⟨rfl, b1⟩
    have c2 := c1.trans (b1.mono c1.size); clear c1 b1
    have c1 := c2; clear c2
    go_wp2_with fail
    go_ret
    exact ⟨rfl, c1⟩
  · have d1 : decide ((1000 : Int) < (s.size : Int)) = true := by rw [decide_eq_true_iff]; omega
    clear hs
    have c1 : Below w.heap.size w (w.alloc (.cells #[.int .i64 S, .int .i64 Z, .int .i64 R, .int .i64 W, .int .i64 K, .int .i64 V, .int .i64 P] 23)) := (Below.refl _ _).alloc (Nat.le_refl _) _
    go_enter Tryd.func4, Tryd.ntmps4
    go_wp2_with fail
    refine (works_any m _ (HT.out.below c1) (cell_kept HM.out c1)).mono ?_
    rintro y w3 ⟨rfl, b1⟩
    have c2 := c1.trans (b1.mono c1.size); clear c1 b1
    have c1 := c2; clear c2
    go_wp2_with fail
    go_ret
    exact ⟨rfl, c1⟩

set_option maxRecDepth 100000 in
set_option maxHeartbeats 8000000 in
theorem walkConfigReads (s : ByteArray) (m : Int) (w : World) (ht : Tab w) (hm : w.cell? ⟨0, 0, none⟩ = some (.int .i64 m)) :
    Calls Tryd.prog 8 #[.string s] w fun e w' => e = .returned (.bool true) ∧ Below w.heap.size w w' := by
  have HT := Lib.hid ht
  have HM := Lib.hid hm
  clear ht hm
  have c1 : Below w.heap.size w w := Below.refl _ _
  by_cases hs : s.size ≤ 300
  · have d1 : decide ((300 : Int) < (s.size : Int)) = false := by rw [decide_eq_false_iff_not]; omega
    have HS : Hid (s.size ≤ 1000000) := by show s.size ≤ 1000000; omega
    clear hs
    by_cases hg : goodW (wordsL s)
    · have htx := good_text hg
      have hE := hg.2.2
      have hcf : cfgOf (wordsL s) = cfgV ((numL (wordsL s) 0).1 : Int) ((numL (wordsL s) 1).1 : Int) ((numL (wordsL s) 2).1 : Int) ((numL (wordsL s) 3).1 : Int) ((numL (wordsL s) 4).1 : Int) ((numL (wordsL s) 5).1 : Int) (polN ((wordsL s).getD 6 ⟨#[]⟩)) := rfl
      generalize ((numL (wordsL s) 0).1 : Int) = S at htx hE hcf
      generalize ((numL (wordsL s) 1).1 : Int) = Z at htx hE hcf
      generalize ((numL (wordsL s) 2).1 : Int) = R at htx hE hcf
      generalize ((numL (wordsL s) 3).1 : Int) = W at htx hE hcf
      generalize ((numL (wordsL s) 4).1 : Int) = K at htx hE hcf
      generalize ((numL (wordsL s) 5).1 : Int) = V at htx hE hcf
      generalize polN ((wordsL s).getD 6 ⟨#[]⟩) = P at htx hE hcf
      have HX := Lib.hid htx
      have HE := Lib.hid hE
      have HG := Lib.hid hg
      have HC := Lib.hid hcf
      clear hg htx hE hcf
      go_enter Tryd.func8, Tryd.ntmps8
      go_wp2_with fail
      refine (parse_is s HS.out (cfgV S Z R W K V P) 0 (Or.inl ⟨HG.out, HC.out, rfl⟩) m _ (HT.out.below c1) (cell_kept HM.out c1)).mono ?_
      rintro y w1 ⟨rfl, b1⟩
      have c2 := c1.trans (b1.mono c1.size); clear c1 b1
      have c1 := c2; clear c2
      obtain ⟨k0, k1, k2, k3, k4, k5, k6⟩ := cfgAt_new w1 S Z R W K V P 23
      have c2 := c1.alloc c1.size (.cells #[.int .i64 S, .int .i64 Z, .int .i64 R, .int .i64 W, .int .i64 K, .int .i64 V, .int .i64 P] 23); clear c1
      have c1 := c2; clear c2
      go_wp2_with fail
      refine (cText_any S Z R W K V P _ (HT.out.below c1) s 0 (Or.inl ⟨HX.out, rfl, HE.out⟩)).mono ?_
      rintro y w1 ⟨rfl, b1⟩
      replace k0 := cell_kept k0 b1
      replace k1 := cell_kept k1 b1
      replace k2 := cell_kept k2 b1
      replace k3 := cell_kept k3 b1
      replace k4 := cell_kept k4 b1
      replace k5 := cell_kept k5 b1
      replace k6 := cell_kept k6 b1
      have c2 := c1.trans (b1.mono c1.size); clear c1 b1
      have c1 := c2; clear c2
      go_wp2_with fail
      refine (check_any S Z R W K V P _).mono ?_
      rw [HE.out]
      rintro y w3 ⟨rfl, b1⟩
      have c2 := c1.trans (b1.mono c1.size); clear c1 b1
      have c1 := c2; clear c2
      go_wp2_with fail
      refine (works_any m _ (HT.out.below c1) (cell_kept HM.out c1)).mono ?_
      rintro y w3 ⟨rfl, b1⟩
      have c2 := c1.trans (b1.mono c1.size); clear c1 b1
      have c1 := c2; clear c2
      go_wp2_with fail
      go_ret
      exact ⟨rfl, c1⟩
    · have HG := Lib.hid hg
      clear hg
      go_enter Tryd.func8, Tryd.ntmps8
      go_wp2_with fail
      refine (parse_is s HS.out cfg0 8 (Or.inr ⟨HG.out, rfl, rfl⟩) m _ (HT.out.below c1) (cell_kept HM.out c1)).mono ?_
      rintro y w1 ⟨rfl, b1⟩
      have c2 := c1.trans (b1.mono c1.size); clear c1 b1
      have c1 := c2; clear c2
      obtain ⟨k0, k1, k2, k3, k4, k5, k6⟩ := cfgAt_new w1 0 0 0 0 0 0 0 23
      have c2 := c1.alloc c1.size (.cells #[.int .i64 0, .int .i64 0, .int .i64 0, .int .i64 0, .int .i64 0, .int .i64 0, .int .i64 0] 23); clear c1
      have c1 := c2; clear c2
      go_wp2_with fail
      refine (works_any m _ (HT.out.below c1) (cell_kept HM.out c1)).mono ?_
      rintro y w3 ⟨rfl, b1⟩
      have c2 := c1.trans (b1.mono c1.size); clear c1 b1
      have c1 := c2; clear c2
      go_wp2_with fail
      go_ret
      exact ⟨rfl, c1⟩
  · have d1 : decide ((300 : Int) < (s.size : Int)) = true := by rw [decide_eq_true_iff]; omega
    clear hs
    go_enter Tryd.func8, Tryd.ntmps8
    go_wp2_with fail
    refine (works_any m _ (HT.out.below c1) (cell_kept HM.out c1)).mono ?_
    rintro y w3 ⟨rfl, b1⟩
    have c2 := c1.trans (b1.mono c1.size); clear c1 b1
    have c1 := c2; clear c2
    go_wp2_with fail
    go_ret
    exact ⟨rfl, c1⟩
end Go.Proofs.YtllgnogiicdhfaaDoor
