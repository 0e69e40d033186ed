/-
  Configurations: what Text computes.
  Conditions: the library's table lies in the world.
-/
import Derived.Test.YtllgnogiicdhfaaDoorCfg5
import Derived.Test.YtllgnogiicdhfaaDoorDigRef
set_option linter.unusedVariables false
namespace Go.Proofs.YtllgnogiicdhfaaDoor
open Go Go.RowKit

theorem below_grow {w w' : World} (h : Below w.heap.size w w') (row : Option Nat) : w.grownBy w' row := ⟨h.os, h.tape, h.output, h.size, fun k hk _ => h.block k hk⟩
theorem own_below {w w' : World} {B e : Nat} {v : Value} {n : Nat} {xs : List Value} (h : w.ownsRow B e 1 v n xs) (hb : Below w.heap.size w w') : w'.ownsRow B e 1 v n xs :=
  h.kept (below_grow hb none) (by cases v.ownBlock <;> simp)
/-- The digits of the number at a place. -/
def digS (L : List Int) (j : Nat) : ByteArray := ⟨(Lib.decDigits (L.getD j 0).toNat).toArray⟩
def digW (L : List Int) (n : Nat) : List ByteArray := (List.range n).map (digS L)
theorem digW_succ (L : List Int) (n : Nat) : digW L (n + 1) = digW L n ++ [digS L n] := by simp [digW, List.range_succ]
theorem digW_length (L : List Int) (n : Nat) : (digW L n).length = n := by simp [digW]
def polS (P : Int) : ByteArray := if P = 1 then greedyS else benefitS
/-- The text of a valid configuration. -/
def textL (S Z R W K V P : Int) : List UInt8 := Lib.join ((digW [S, Z, R, W, K, V] 6 ++ [polS P]).map (·.data.toList)) [32]

theorem join_is (xs : List ByteArray) (n : Nat) (hn : xs.length = n) (r sep : ByteArray) (hr : Lib.join (xs.map (·.data.toList)) sep.data.toList = r.data.toList) (hlen : r.size ≤ 140737488355328) (hn2 : n ≤ 100000) (B g c : Nat) (w : World) (h : w.ownsRow B 9 1 (.slice (some ⟨g, 0, none⟩) n c) n (strCellsL xs)) (h0 : 0 < n) :
    Calls Tryd.prog 27 #[.slice (some ⟨g, 0, none⟩) n c, .string sep] w fun e w' => e = .returned (.string r) ∧ Below w.heap.size w w' := by
  subst hn
  have hc : xs.length ≤ c := by
    rcases h.2 with ⟨he, _⟩ | ⟨g', cap, cur, he, _, _, hcap, _⟩
    · cases he
    · cases he; exact hcap
  have h2 := Tryd.strings_Join g 0 c xs sep w (fun j x hx => by
    have hj : j < xs.length := (List.getElem?_eq_some_iff.1 hx).1
    rw [Nat.zero_add, h.cellAt j (by omega)]
    unfold strCellsL
    rw [List.getElem?_map, hx]
    rfl) (h.lt g rfl).2 (by omega) hc (by rw [hr, str_len]; exact hlen)
  rw [hr, str_back] at h2
  exact h2
theorem digS_len (L : List Int) (j : Nat) (h : 0 ≤ L.getD j 0 ∧ L.getD j 0 ≤ 65536) : (digS L j).data.toList.length ≤ 20 := by
  show (Lib.decDigits (L.getD j 0).toNat).length ≤ 20
  by_cases h0 : (L.getD j 0).toNat = 0
  · rw [h0, Lib.decDigits, dif_pos (by decide)]; decide
  · rw [Lib.decDigits_length]
    have := Lib.numDigits_eq (L.getD j 0).toNat (by omega) (by omega)
    split at this <;> omega
theorem lens_le (l : List (List UInt8)) (k : Nat) (h : ∀ x ∈ l, x.length ≤ k) : Lib.lens l ≤ k * l.length := by
  induction l with
  | nil => simp [Lib.lens]
  | cons x r ih =>
    have h1 := h x (by simp)
    have h2 := ih fun y hy => h y (by simp [hy])
    simp only [Lib.lens, List.length_cons, Nat.mul_add] at h2 ⊢
    simp at h2 ⊢
    omega
theorem textL_len {S Z R W K V P : Int} (h : ∀ j, j < 6 → 0 ≤ [S, Z, R, W, K, V].getD j 0 ∧ [S, Z, R, W, K, V].getD j 0 ≤ 65536) : (textL S Z R W K V P).length ≤ 200 := by
  unfold textL
  have hx : ∀ x ∈ (digW [S, Z, R, W, K, V] 6 ++ [polS P]).map (·.data.toList), x.length ≤ 20 := by
    intro x hx
    rw [List.mem_map] at hx
    obtain ⟨b, hb, rfl⟩ := hx
    rw [List.mem_append] at hb
    rcases hb with hb | hb
    · unfold digW at hb
      rw [List.mem_map] at hb
      obtain ⟨j, hj, rfl⟩ := hb
      exact digS_len _ j (h j (by simpa using hj))
    · simp at hb
      subst hb
      unfold polS
      split <;> decide
  have hl : ((digW [S, Z, R, W, K, V] 6 ++ [polS P]).map (·.data.toList)).length = 7 := by simp [digW_length]
  have := lens_le _ 20 hx
  cases hm : (digW [S, Z, R, W, K, V] 6 ++ [polS P]).map (·.data.toList) with
  | nil => rw [hm] at hl; simp at hl
  | cons y r =>
    rw [hm] at hl this
    rw [Lib.join_length]
    simp at hl this ⊢
    omega

set_option maxRecDepth 100000 in
set_option maxHeartbeats 8000000 in
theorem cText_any (S Z R W K V P : Int) (w : World) (ht : Tab w) (v : ByteArray) (e : Int) (h : (v.data.toList = textL S Z R W K V P ∧ e = 0 ∧ cfgE S Z R W K V P = 0) ∨ (v = ⟨#[]⟩ ∧ e = 2 ∧ cfgE S Z R W K V P = 2)) :
    Calls Tryd.prog 21 #[cfgV S Z R W K V P] w fun x w' => x = .returned (.tuple #[.string v, .int .i64 e]) ∧ Below w.heap.size w w' := by
  have HT := Lib.hid ht; clear ht
  rcases h with ⟨hv, rfl, h⟩ | ⟨rfl, rfl, h⟩
  · rcases cfg_cases S Z R W K V P with ⟨_, h0, h1, h2, h3, h4, h5, h6⟩ | h'
    · have HE := Lib.hid h
      have HV := Lib.hid hv
      have HF : Hid (∀ j, j < 6 → 0 ≤ [S, Z, R, W, K, V].getD j 0 ∧ [S, Z, R, W, K, V].getD j 0 ≤ 65536) := by
        intro j hj
        match j, hj with
        | 0, _ => show 0 ≤ S ∧ S ≤ 65536; omega
        | 1, _ => show 0 ≤ Z ∧ Z ≤ 65536; omega
        | 2, _ => show 0 ≤ R ∧ R ≤ 65536; omega
        | 3, _ => show 0 ≤ W ∧ W ≤ 65536; omega
        | 4, _ => show 0 ≤ K ∧ K ≤ 65536; omega
        | 5, _ => show 0 ≤ V ∧ V ≤ 65536; omega
      have hidx := run_idx6 S Z R W K V
      have HI := Lib.hid hidx
      obtain ⟨i0, hi0, hz0, hz1, hz2⟩ := info_parts infoStr
      clear h h0 h1 h2 h3 h4 h5 hv hidx
      go_enter Tryd.func21, Tryd.ntmps21
      go_wp2_with fail
      go_in
      go_wp2_with fail
      refine (check_any S Z R W K V P _).mono ?_
      rw [HE.out]
      rintro e w1 ⟨rfl, b1⟩
      have hq := cfgAt_two _ _ _ _ _ _ _ _ _ _ _ _ b1
      have c1 := hq.2
      have HC := Lib.hid hq.1
      obtain ⟨k0, k1, k2, k3, k4, k5, k6⟩ := hq.1
      clear hq b1
      go_wp2_with fail
      go_in
      go_wp2_with fail
      refine (of_any S Z R W K V P _).mono ?_
      rintro e w2 ⟨rfl, b1⟩
      have HP := Lib.hid (cell_kept k6 b1)
      have c2 := c1.trans (b1.mono c1.size)
      clear b1 c1 k0 k1 k2 k3 k4 k5 k6 HC
      go_wp2_with fail
      have h00 : Hid (w2.ownsRow w2.heap.size 9 1 (.slice none 0 0) 0 (strCellsL (digW [S, Z, R, W, K, V] 0))) := World.ownsRow_nil _ _ _ _
      go_loopw [2, 7] (fun vo vi wr => ∃ i : Nat, i ≤ 6 ∧ vi = .int .i64 i ∧ Hid (wr.ownsRow w2.heap.size 9 1 vo i (strCellsL (digW [S, Z, R, W, K, V] i))) ∧ Below w2.heap.size w2 wr) (fun _ vi _ => 6 - (intOf vi).toNat)
      case atStart => exact ⟨0, Nat.zero_le _, rfl, h00, Below.refl _ _⟩
      case round =>
        clear h00
        obtain ⟨i, hi, rfl, hr, c3⟩ := hrel
        by_cases hlt : i < 6
        · have hidx := HI.out i hlt
          have hfb := HF.out i hlt
          have hsn := digW_succ [S, Z, R, W, K, V] i
          obtain ⟨u, hu⟩ : ∃ u : Nat, [S, Z, R, W, K, V].getD i 0 = (u : Int) := ⟨([S, Z, R, W, K, V].getD i 0).toNat, by omega⟩
          have hdg : digS [S, Z, R, W, K, V] i = ⟨(Lib.decDigits u).toArray⟩ := by unfold digS; rw [hu, Int.toNat_natCast]
          rw [hu] at hidx hfb
          have hu2 : u ≤ 65536 := by omega
          have wu : IntKind.u64.wrap (u : Int) = (u : Int) := wrap_u64 (m := u) rfl (by have : (256 : Nat) ^ 8 = 18446744073709551616 := by decide
                                                                                        omega)
          obtain ⟨D, hD⟩ : ∃ D : ByteArray, (⟨(Lib.decDigits u).toArray⟩ : ByteArray) = D := ⟨_, rfl⟩
          rw [hD] at hdg
          rw [hdg] at hsn
          have HD := Lib.hid hD
          have HSn := Lib.hid hsn
          clear hu hdg hD hsn hfb
          go_wp2_with fail
          refine (digits_any u (by omega) _ (HT.out.below (c2.trans (c3.mono c2.size)))).mono ?_
          rw [HD.out]
          rintro e w3 ⟨rfl, b1⟩
          have hr3 := Lib.hid (own_below hr.out b1)
          have c4 := c3.trans (b1.mono c3.size)
          clear hr b1 c3 hidx
          go_wp2_with (at_builtin; refine wpList_append_own _ rfl (.tmp 10) (.tmp 14) 41 rfl w2.heap.size 9 i0 (.string ⟨#[]⟩) 1 16 Tryd.underlying41 hi0 hz0 hz1 hz2 rfl (by decide) _ _ _ rfl (hr3.out.alloc _) ⟨w3.heap.size, 0, none⟩ 1 1 [.string D] rfl rfl (cell_one_new _ _ _) (fun q hq => by simp at hq; subst hq; rfl) (by unfold maxLen; omega) (by omega) (by have := c4.size; simp; omega) ?_)
          intro v' w4 hown hgrow _
          have HR : Hid (w4.ownsRow w2.heap.size 9 1 v' (i + 1) (strCellsL (digW [S, Z, R, W, K, V] (i + 1)))) := by
            show World.ownsRow _ _ _ _ _ _ _
            rw [HSn.out, ← strCellsL_snoc]
            exact hown
          have c5 : Below w2.heap.size w2 w4 := (c4.alloc c4.size _).grown hgrow (by have := c4.size; simp; omega) (fun k hk => (hr3.out.lt k hk).1)
          clear hown hgrow hr3 c4
          go_wp2_with fail
          go_roundw
          case rel => exact ⟨i + 1, by omega, by go_num, HR, c5⟩
          case measure => simp [intOf]; omega
        · obtain rfl : i = 6 := by omega
          clear hlt hi
          have kP := cell_kept HP.out c3
          have hro := hr.out
          have cw := c2.trans (c3.mono c2.size)
          have hBs := c3.size
          have hBw := c2.size
          have HTx := Lib.hid (textL_len (P := P) HF.out)
          have hlt2 : w.heap.size < w2.heap.size := World.block_lt_of_cell? _ _ HP.out
          go_wp2_with fail
          rcases (show P = 1 ∨ P = 2 by omega) with rfl | rfl
          · have kPd : wr.drew.cell? ⟨w.heap.size, 6, none⟩ = some (.int .i64 1) := kP
            have HVj : Hid (Lib.join ((digW [S, Z, R, W, K, V] 6 ++ [greedyS]).map (·.data.toList)) (⟨#[32]⟩ : ByteArray).data.toList = v.data.toList) := by show _ = _; rw [HV.out]; rfl
            have hvs : v.size ≤ 200 := by rw [← str_len, HV.out]; exact HTx.out
            go_region_law (first
              | (go_simp; go_at_call 41; refine (words_any _).mono ?_; rintro e w3 ⟨rfl, hw, b1⟩; have hw2 : WordsAt w3 wr.heap.size := hw; obtain ⟨q0, q1, q2⟩ := hw2; have kP3 := cell_kept kPd b1)
              | (go_simp; go_at_call 27; refine (join_is (digW [S, Z, R, W, K, V] 6 ++ [greedyS]) 7 (by simp [digW_length]) v ⟨#[32]⟩ HVj.out (by omega) (by decide) w2.heap.size gg cap _ (by have h := hown; rw [strCellsL_snoc] at h; exact h) (by decide)).mono ?_; rintro e w5 ⟨rfl, b2⟩)
              | (refine step_append_lies _ rfl (.tmp 17) (.tmp 23) 41 rfl w2.heap.size 9 i0 (.string ⟨#[]⟩) 1 16 Tryd.underlying41 hi0 hz0 hz1 hz2 rfl (by decide) u2 6 (strCellsL (digW [S, Z, R, W, K, V] 6)) rfl ((own_below (w := wr.drew) hro b1).alloc _) ⟨w3.heap.size, 0, none⟩ 1 1 [.string greedyS] rfl rfl (cell_one_new _ _ _) (fun q hq => by simp at hq; subst hq; rfl) (by decide) (by decide) (by decide) (by have := b1.size; simp at this ⊢; omega) _ rfl ?_; intro gg cap w4 hown hgrow hat hglt))
            all_goals
              have d1 : Below w.heap.size w w3 := cw.drew.trans (b1.mono cw.drew.size)
              have d2 := (d1.alloc d1.size (.cells #[.string greedyS] 9)).grown hgrow (by have := d1.size; simp; omega) (fun k hk => Nat.le_trans hBw (hro.lt k hk).1)
              have d3 := d2.trans (b2.mono d2.size)
              clear d1 d2 b1 b2 hown hgrow hat hro hr
              go_wp2_with fail
              go_ret2
              exact ⟨rfl, d3⟩
          · have kPd : wr.drew.cell? ⟨w.heap.size, 6, none⟩ = some (.int .i64 2) := kP
            have HVj : Hid (Lib.join ((digW [S, Z, R, W, K, V] 6 ++ [benefitS]).map (·.data.toList)) (⟨#[32]⟩ : ByteArray).data.toList = v.data.toList) := by show _ = _; rw [HV.out]; rfl
            have hvs : v.size ≤ 200 := by rw [← str_len, HV.out]; exact HTx.out
            go_region_law (first
              | (go_simp; go_at_call 41; refine (words_any _).mono ?_; rintro e w3 ⟨rfl, hw, b1⟩; have hw2 : WordsAt w3 wr.heap.size := hw; obtain ⟨q0, q1, q2⟩ := hw2; have kP3 := cell_kept kPd b1)
              | (go_simp; go_at_call 27; refine (join_is (digW [S, Z, R, W, K, V] 6 ++ [benefitS]) 7 (by simp [digW_length]) v ⟨#[32]⟩ HVj.out (by omega) (by decide) w2.heap.size gg cap _ (by have h := hown; rw [strCellsL_snoc] at h; exact h) (by decide)).mono ?_; rintro e w5 ⟨rfl, b2⟩)
              | (refine step_append_lies _ rfl (.tmp 17) (.tmp 23) 41 rfl w2.heap.size 9 i0 (.string ⟨#[]⟩) 1 16 Tryd.underlying41 hi0 hz0 hz1 hz2 rfl (by decide) u2 6 (strCellsL (digW [S, Z, R, W, K, V] 6)) rfl ((own_below (w := wr.drew) hro b1).alloc _) ⟨w3.heap.size, 0, none⟩ 1 1 [.string benefitS] rfl rfl (cell_one_new _ _ _) (fun q hq => by simp at hq; subst hq; rfl) (by decide) (by decide) (by decide) (by have := b1.size; simp at this ⊢; omega) _ rfl ?_; intro gg cap w4 hown hgrow hat hglt))
            all_goals
              have d1 : Below w.heap.size w w3 := cw.drew.trans (b1.mono cw.drew.size)
              have d2 := (d1.alloc d1.size (.cells #[.string benefitS] 9)).grown hgrow (by have := d1.size; simp; omega) (fun k hk => Nat.le_trans hBw (hro.lt k hk).1)
              have d3 := d2.trans (b2.mono d2.size)
              clear d1 d2 b1 b2 hown hgrow hat hro hr
              go_wp2_with fail
              go_ret2
              exact ⟨rfl, d3⟩
    · rw [h] at h'; cases h'
  · skip
    have HE := Lib.hid h
    clear h
    go_enter Tryd.func21, Tryd.ntmps21
    go_wp2_with fail
    go_in
    go_wp2_with fail
    refine (check_any S Z R W K V P _).mono ?_
    rw [HE.out]
    rintro e w1 ⟨rfl, b1⟩
    have hq := cfgAt_two _ _ _ _ _ _ _ _ _ _ _ _ b1
    have c1 := hq.2
    clear hq b1
    go_wp2_with fail
    go_ret2
    exact ⟨rfl, c1⟩
end Go.Proofs.YtllgnogiicdhfaaDoor
