/-
  Plans: what read makes of a string, with its panic.
  Conditions: the library's tables and variables lie in the world.
-/
import Derived.Test.YtoceeegdbnigeaaDoorRead1
set_option linter.unusedVariables false
namespace Go.Proofs.YtoceeegdbnigeaaDoor
open Go Go.RowKit Go.Shelf
attribute [local go_sem] Oper.semAt_some

/-- What read does: the plan, or its panic. -/
def readPost (B : Nat) (s : ByteArray) (e : Ending) (w' : World) : Prop :=
  (goodP s ∧ ∃ v, e = .returned (planV (numN (w3 s 0) : Int) (decide (w3 s 1 = yS)) v) ∧ IntsNew B w' v (kepL s)) ∨ (¬ goodP s ∧ e = .panicked [{ v := malV, recovered := false }])
theorem read_yes (s x0 x1 x2 : ByteArray) (b : Bool) (B : Nat) (h0 : w3 s 0 = x0) (h1 : w3 s 1 = x1) (h2 : w3 s 2 = x2) (hw : w3P s) (hg : numG x0 1000000) (hb : decide (x1 = yS) = b) :
    restOK x2 → ∀ v w', IntsNew B w' v (restKL x2) → readPost B s (.returned (planV (numN x0 : Int) b v)) w' := by
  subst h0 h1 h2 hb
  intro h v w' hi
  exact Or.inl ⟨⟨hw, hg, h.1, h.2⟩, v, rfl, hi⟩
theorem read_no (s x2 : ByteArray) (B : Nat) (h2 : w3 s 2 = x2) : ¬ restOK x2 → ∀ w', readPost B s (.panicked [{ v := malV, recovered := false }]) w' := by
  subst h2
  intro h w'
  exact Or.inr ⟨fun hg => h ⟨hg.2.2.1, hg.2.2.2⟩, rfl⟩
set_option maxRecDepth 100000 in
set_option maxHeartbeats 8000000 in
theorem read_any (s : ByteArray) (hs : s.size ≤ 1000000) (m : Int) (w : World) (ht : Tab w) (he : Errs w) (hm : w.cell? ⟨0, 0, none⟩ = some (.int .i64 m)) :
    Calls Tryd.prog 46 #[.string s] w fun e w' => readPost w.heap.size s e w' ∧ Below w.heap.size w w' := by
  have HT := Lib.hid ht
  have HE := Lib.hid he
  have HM := Lib.hid hm
  have HS := Lib.hid hs
  clear ht he hm hs
  refine (callsIn_wide (n := 0)).1 ?_
  refine callsIn_of_wpAtP Tryd.func46 rfl trivial ?_ rfl
  simp only [Tryd.ntmps46, List.size_toArray, List.length_cons, List.length_nil, Nat.reduceAdd, Nat.reduceSub, Array.replicate_succ, Array.replicate_zero, List.push_toArray, List.append_toArray, List.nil_append, List.cons_append]
  refine WpAt.seq trivial (WpAt.ofw ?_)
  go_wp2_with fail
  refine WpAt.seq trivial (WpAt.ofw ?_)
  go_wp2_with fail
  refine (splitp_any s HS.out 32 m _ (cell_old HM.out)).mono ?_
  rintro e w1 ⟨rfl, hx, b1⟩
  have c1 : Below w.heap.size w w1 := ((Below.refl _ _).alloc (Nat.le_refl _) _).trans (b1.mono (by simp))
  have hB : w.heap.size < (w.alloc (.cells #[.int .i64 0, .bool false, .slice none 0 0] 24)).heap.size := by simp
  have hres : Hid ((w1.cell? ⟨w.heap.size, 0, none⟩ = some (.int .i64 0) ∧ w1.cell? ⟨w.heap.size, 1, none⟩ = some (.bool false) ∧ w1.cell? ⟨w.heap.size, 2, none⟩ = some (.slice none 0 0)) ∧ ∀ j, w1.frozen? ⟨w.heap.size, j, none⟩ = false) :=
    ⟨⟨cell_kept (new_cell _ _ 0 _ rfl) b1, cell_kept (new_cell _ _ 1 _ rfl) b1, cell_kept (new_cell _ _ 2 _ rfl) b1⟩, fun j => free_kept (new_free _ _ j) hB b1⟩
  generalize (w.alloc (.cells #[.int .i64 0, .bool false, .slice none 0 0] 24)).heap.size = B1 at *
  clear b1
  obtain ⟨nw, hnw⟩ : ∃ n, (pcS 32 s).length = n := ⟨_, rfl⟩
  by_cases h3 : nw = 3
  · subst h3
    rw [hnw]
    have hc0 : w1.cell? ⟨B1, 0, none⟩ = some (.string (w3 s 0)) := hx 0 (by omega)
    have hc1 : w1.cell? ⟨B1, 1, none⟩ = some (.string (w3 s 1)) := hx 1 (by omega)
    have hc2 : w1.cell? ⟨B1, 2, none⟩ = some (.string (w3 s 2)) := hx 2 (by omega)
    obtain ⟨x0, hx0⟩ : ∃ x, w3 s 0 = x := ⟨_, rfl⟩
    obtain ⟨x1, hx1⟩ : ∃ x, w3 s 1 = x := ⟨_, rfl⟩
    obtain ⟨x2, hx2⟩ : ∃ x, w3 s 2 = x := ⟨_, rfl⟩
    rw [hx0] at hc0
    rw [hx1] at hc1
    rw [hx2] at hc2
    have HX0 := Lib.hid hx0
    have HX1 := Lib.hid hx1
    have HX2 := Lib.hid hx2
    have HN3 := Lib.hid hnw
    clear hx hx0 hx1 hx2 hnw
    by_cases hyn : x1 = yS ∨ x1 = nS
    · have hd : ∃ b : Bool, decide (x1 = yS) = b ∧ (x1.toList == [121]) = b ∧ (b = true ∨ (x1.toList == [110]) = true) := by
        rcases hyn with rfl | rfl
        · exact ⟨true, by decide, by rw [ByteArray.toList_eq]; decide, Or.inl rfl⟩
        · exact ⟨false, by decide, by rw [ByteArray.toList_eq]; decide, Or.inr (by rw [ByteArray.toList_eq]; decide)⟩
      obtain ⟨b, hb0, hb1, hb2⟩ := hd
      have HBD := Lib.hid hb0
      have hsz0 : x0.size ≤ 1000000 := by rw [← HX0.out]; exact Nat.le_trans (pcS_size 32 s 0) HS.out
      have hsz2 : x2.size ≤ 1000000 := by rw [← HX2.out]; exact Nat.le_trans (pcS_size 32 s 2) HS.out
      have HW3 : Hid (w3P s) := ⟨HN3.out, by rw [HX1.out]; exact hyn⟩
      have HS0 := Lib.hid hsz0
      have HS2 := Lib.hid hsz2
      clear hyn hb0 hsz0 hsz2
      cases b
      · have hb3 := hb2.resolve_left (by decide)
        clear hb2
        go_wp2_with fail
        refine WpAt.seq trivial (WpAt.ofw ?_)
        go_wp2_with fail
        refine (need_yes _).mono ?_
        rintro e w2 ⟨rfl, rfl⟩
        go_wp2_with fail
        refine WpAt.seq_k trivial (fun K hK => WpAt.ofw ?_)
        have c1d := c1.drew
        have c1a := (c1.alloc c1.size (.cells #[.int .i64 0, .bool false, .slice none 0 0] 24)).drew
        have hc1d : w1.drew.cell? ⟨B1, 1, none⟩ = some (.string x1) := hc1
        have hc0a : (w1.alloc (.cells #[.int .i64 0, .bool false, .slice none 0 0] 24)).drew.cell? ⟨B1, 0, none⟩ = some (.string x0) := cell_old hc0
        have hc1a : (w1.alloc (.cells #[.int .i64 0, .bool false, .slice none 0 0] 24)).drew.cell? ⟨B1, 1, none⟩ = some (.string x1) := cell_old hc1
        by_cases hg0 : numG x0 1000000
        · have HG0 := Lib.hid hg0
          clear hg0
          have hpn : PlanAt (w1.alloc (.cells #[.int .i64 0, .bool false, .slice none 0 0] 24)).drew w1.heap.size 0 false (.slice none 0 0) := PlanAt.new w1 0 false (.slice none 0 0) 24
          have HPN := Lib.hid hpn
          clear hpn
          go_cut [4] from 24 to 32 (fun a wx => ∃ BP, a = .pointer (some ⟨BP, 0, none⟩) ∧ w1.heap.size ≤ BP ∧ Hid (PlanAt wx BP (numN x0 : Int) false (.slice none 0 0)) ∧ Hid (Below w1.heap.size w1 wx))
          case first =>
            go_region_with (go_at_call 58; first | (refine (number_yes x0 HS0.out 1000000 (by decide) (by decide) HG0.out _ (HT.out.below c1d) (HE.out.below c1d)).mono ?_; rintro e w2 ⟨rfl, b1⟩; have cA2 : Below w1.heap.size w1 w2 := (Below.refl w1.heap.size w1).drew.trans b1; have hA2 : w1.heap.size ≤ w2.heap.size := cA2.size; have hc1' := cell_kept hc1d b1; have hc1x : (w2.alloc (.cells #[.int .i64 0, .bool false, .slice none 0 0] 24)).cell? ⟨B1, 1, none⟩ = some (.string x1) := cell_old hc1') | (refine (number_yes x0 HS0.out 1000000 (by decide) (by decide) HG0.out _ (HT.out.below c1a) (HE.out.below c1a)).mono ?_; rintro e w2 ⟨rfl, b1⟩; have cB2 : Below w1.heap.size w1 w2 := (((Below.refl w1.heap.size w1).alloc (Nat.le_refl _) (.cells #[.int .i64 0, .bool false, .slice none 0 0] 24)).drew).trans (b1.mono (by rw [World.drew, World.size_alloc]; omega)); have hc1' := cell_kept hc1a b1; have HP2 := Lib.hid (HPN.out.below b1); obtain ⟨⟨p0, p1, p2⟩, pf⟩ := HPN.out.below b1; have pf0 := pf 0; have pf1 := pf 1; have pf2 := pf 2))
            all_goals (go_wp2_with fail; go_meet; first | exact ⟨_, rfl, hA2, Lib.hid (PlanAt.new w2 (numN x0 : Int) false (.slice none 0 0) 24), Lib.hid (cA2.alloc hA2 _)⟩ | exact ⟨_, rfl, Nat.le_refl _, Lib.hid (HP2.out.set (numN x0 : Int) false (.slice none 0 0)), Lib.hid (below_set (below_set (below_set cB2 _ (Nat.le_refl _) 0 _) _ (Nat.le_refl _) 1 _) _ (Nat.le_refl _) 2 _)⟩)
          case rest =>
            obtain ⟨BP, rfl, hBP, HP, HBl⟩ := hcut
            have hRL := World.block_lt_of_cell? w1 _ hres.out.1.1
            refine hK _ _ ?_
            exact read_rest x2 (numN x0 : Int) false w wc B1 BP (readPost w.heap.size s) _ _ _ _ _ _ _ _ _ _ _ _ _ _ _ _ _ _ _ _ _ _ _ _ _ _ _ _ _ _ _ _ _ _ _ _ _ _ _ _ _ _ _ _ _ _ _ HT.out HE.out (c1.trans (HBl.out.mono c1.size)) (PlanAt.below hres.out HBl.out) HP.out (Nat.lt_of_lt_of_le hRL hBP) (cell_kept hc2 HBl.out) HS2.out ⟨by omega, HG0.out.2⟩ (read_yes s x0 x1 x2 false _ HX0.out HX1.out HX2.out HW3.out HG0.out HBD.out) (read_no s x2 _ HX2.out)
        · have HN : Hid (¬ goodP s) := fun h => hg0 (by rw [← HX0.out]; exact h.2.1)
          have HG0 := Lib.hid hg0
          clear hg0
          go_region_dies
          all_goals (first
            | (refine (number_no x0 HS0.out 1000000 (by decide) (by decide) HG0.out _ (HT.out.below c1d) (HE.out.below c1d)).mono ?_; rintro e w2 ⟨rfl, b1⟩; exact Or.inl ⟨rfl, Or.inr ⟨HN.out, rfl⟩, c1d.trans (b1.mono c1d.size)⟩)
            | (refine (number_no x0 HS0.out 1000000 (by decide) (by decide) HG0.out _ (HT.out.below c1a) (HE.out.below c1a)).mono ?_; rintro e w2 ⟨rfl, b1⟩; exact Or.inl ⟨rfl, Or.inr ⟨HN.out, rfl⟩, c1a.trans (b1.mono c1a.size)⟩))
      · clear hb2
        go_wp2_with fail
        refine WpAt.seq trivial (WpAt.ofw ?_)
        go_wp2_with fail
        refine (need_yes _).mono ?_
        rintro e w2 ⟨rfl, rfl⟩
        go_wp2_with fail
        refine WpAt.seq_k trivial (fun K hK => WpAt.ofw ?_)
        have c1d := c1.drew
        have c1a := (c1.alloc c1.size (.cells #[.int .i64 0, .bool false, .slice none 0 0] 24)).drew
        have hc1d : w1.drew.cell? ⟨B1, 1, none⟩ = some (.string x1) := hc1
        have hc0a : (w1.alloc (.cells #[.int .i64 0, .bool false, .slice none 0 0] 24)).drew.cell? ⟨B1, 0, none⟩ = some (.string x0) := cell_old hc0
        have hc1a : (w1.alloc (.cells #[.int .i64 0, .bool false, .slice none 0 0] 24)).drew.cell? ⟨B1, 1, none⟩ = some (.string x1) := cell_old hc1
        by_cases hg0 : numG x0 1000000
        · have HG0 := Lib.hid hg0
          clear hg0
          have hpn : PlanAt (w1.alloc (.cells #[.int .i64 0, .bool false, .slice none 0 0] 24)).drew w1.heap.size 0 false (.slice none 0 0) := PlanAt.new w1 0 false (.slice none 0 0) 24
          have HPN := Lib.hid hpn
          clear hpn
          go_cut [4] from 24 to 32 (fun a wx => ∃ BP, a = .pointer (some ⟨BP, 0, none⟩) ∧ w1.heap.size ≤ BP ∧ Hid (PlanAt wx BP (numN x0 : Int) true (.slice none 0 0)) ∧ Hid (Below w1.heap.size w1 wx))
          case first =>
            go_region_with (go_at_call 58; first | (refine (number_yes x0 HS0.out 1000000 (by decide) (by decide) HG0.out _ (HT.out.below c1d) (HE.out.below c1d)).mono ?_; rintro e w2 ⟨rfl, b1⟩; have cA2 : Below w1.heap.size w1 w2 := (Below.refl w1.heap.size w1).drew.trans b1; have hA2 : w1.heap.size ≤ w2.heap.size := cA2.size; have hc1' := cell_kept hc1d b1; have hc1x : (w2.alloc (.cells #[.int .i64 0, .bool false, .slice none 0 0] 24)).cell? ⟨B1, 1, none⟩ = some (.string x1) := cell_old hc1') | (refine (number_yes x0 HS0.out 1000000 (by decide) (by decide) HG0.out _ (HT.out.below c1a) (HE.out.below c1a)).mono ?_; rintro e w2 ⟨rfl, b1⟩; have cB2 : Below w1.heap.size w1 w2 := (((Below.refl w1.heap.size w1).alloc (Nat.le_refl _) (.cells #[.int .i64 0, .bool false, .slice none 0 0] 24)).drew).trans (b1.mono (by rw [World.drew, World.size_alloc]; omega)); have hc1' := cell_kept hc1a b1; have HP2 := Lib.hid (HPN.out.below b1); obtain ⟨⟨p0, p1, p2⟩, pf⟩ := HPN.out.below b1; have pf0 := pf 0; have pf1 := pf 1; have pf2 := pf 2))
            all_goals (go_wp2_with fail; go_meet; first | exact ⟨_, rfl, hA2, Lib.hid (PlanAt.new w2 (numN x0 : Int) true (.slice none 0 0) 24), Lib.hid (cA2.alloc hA2 _)⟩ | exact ⟨_, rfl, Nat.le_refl _, Lib.hid (HP2.out.set (numN x0 : Int) true (.slice none 0 0)), Lib.hid (below_set (below_set (below_set cB2 _ (Nat.le_refl _) 0 _) _ (Nat.le_refl _) 1 _) _ (Nat.le_refl _) 2 _)⟩)
          case rest =>
            obtain ⟨BP, rfl, hBP, HP, HBl⟩ := hcut
            have hRL := World.block_lt_of_cell? w1 _ hres.out.1.1
            refine hK _ _ ?_
            exact read_rest x2 (numN x0 : Int) true w wc B1 BP (readPost w.heap.size s) _ _ _ _ _ _ _ _ _ _ _ _ _ _ _ _ _ _ _ _ _ _ _ _ _ _ _ _ _ _ _ _ _ _ _ _ _ _ _ _ _ _ _ _ _ _ _ HT.out HE.out (c1.trans (HBl.out.mono c1.size)) (PlanAt.below hres.out HBl.out) HP.out (Nat.lt_of_lt_of_le hRL hBP) (cell_kept hc2 HBl.out) HS2.out ⟨by omega, HG0.out.2⟩ (read_yes s x0 x1 x2 true _ HX0.out HX1.out HX2.out HW3.out HG0.out HBD.out) (read_no s x2 _ HX2.out)
        · have HN : Hid (¬ goodP s) := fun h => hg0 (by rw [← HX0.out]; exact h.2.1)
          have HG0 := Lib.hid hg0
          clear hg0
          go_region_dies
          all_goals (first
            | (refine (number_no x0 HS0.out 1000000 (by decide) (by decide) HG0.out _ (HT.out.below c1d) (HE.out.below c1d)).mono ?_; rintro e w2 ⟨rfl, b1⟩; exact Or.inl ⟨rfl, Or.inr ⟨HN.out, rfl⟩, c1d.trans (b1.mono c1d.size)⟩)
            | (refine (number_no x0 HS0.out 1000000 (by decide) (by decide) HG0.out _ (HT.out.below c1a) (HE.out.below c1a)).mono ?_; rintro e w2 ⟨rfl, b1⟩; exact Or.inl ⟨rfl, Or.inr ⟨HN.out, rfl⟩, c1a.trans (b1.mono c1a.size)⟩))
    · have d2 : (x1.toList == [121]) = false := by
        rw [ByteArray.toList_eq, beq_eq_false_iff_ne]
        intro h
        exact hyn (Or.inl (by apply ByteArray.ext; apply Array.ext'; exact h))
      have d3 : (x1.toList == [110]) = false := by
        rw [ByteArray.toList_eq, beq_eq_false_iff_ne]
        intro h
        exact hyn (Or.inr (by apply ByteArray.ext; apply Array.ext'; exact h))
      have HN : Hid (¬ goodP s) := fun h => hyn (by rw [← HX1.out]; exact h.1.2)
      clear hyn
      go_wp2_with fail
      refine WpAt.seq trivial (WpAt.ofw ?_)
      go_wp2_with fail
      refine (need_no _).mono ?_
      rintro e w2 ⟨rfl, rfl⟩
      exact Or.inl ⟨rfl, Or.inr ⟨HN.out, rfl⟩, c1⟩
  · have d1 : ((nw : Int) == 3) = false := by rw [beq_eq_false_iff_ne]; omega
    have HN : Hid (¬ goodP s) := fun h => h3 (by rw [← hnw]; exact h.1.1)
    rw [hnw]
    clear hx h3 hnw
    go_wp2_with fail
    refine WpAt.seq trivial (WpAt.ofw ?_)
    go_wp2_with fail
    refine (need_no _).mono ?_
    rintro e w2 ⟨rfl, rfl⟩
    exact Or.inl ⟨rfl, Or.inr ⟨HN.out, rfl⟩, c1⟩
end Go.Proofs.YtoceeegdbnigeaaDoor
