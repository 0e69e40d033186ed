/-
  Plans: what read does with the numbers of a plan, the loop over the pieces.
  Conditions: the library's tables and variables lie in the world.
-/
import Derived.Test.YtoceeegdbnigeaaDoorRead
import Derived.Test.YtoceeegdbnigeaaDoorInr
set_option linter.unusedVariables false
namespace Go.Proofs.YtoceeegdbnigeaaDoor
open Go Go.RowKit Go.Shelf
attribute [local go_sem] Oper.semAt_some

theorem infoI : (Tryd.prog.info? 3).map (fun i => (i.zero, i.size, i.bytes)) = some (some (.int .i64 0), 1, 8) := by kernel_rfl
noncomputable def rest46 : Code := match Tryd.f46.body with
  | some (.seq _ (.seq _ (.seq _ (.seq _ r)))) => r
  | _ => .skip
def restKL (x2 : ByteArray) : List Int := (pcS 44 x2).map fun x => (numN x : Int)
def restOK (x2 : ByteArray) : Prop := (∀ k, k < (pcS 44 x2).length → numG ((pcS 44 x2).getD k ⟨#[]⟩) 8192) ∧ (pcS 44 x2).length ≤ 34
theorem restKL_snoc (x2 : ByteArray) (k : Nat) (hk : k < (pcS 44 x2).length) (x : ByteArray) (hx : (pcS 44 x2).getD k ⟨#[]⟩ = x) : (restKL x2).take k ++ [(numN x : Int)] = (restKL x2).take (k + 1) := by
  unfold restKL
  rw [List.take_add_one, List.getElem?_map, List.getElem?_eq_getElem hk]
  rw [List.getD, List.getElem?_eq_getElem hk] at hx
  have h2 : (pcS 44 x2)[k] = x := hx
  rw [h2]
  rfl
theorem restE (x2 : ByteArray) (A : Int) (hA : 0 ≤ A ∧ A ≤ 1000000) (hj : ∀ j, j < (pcS 44 x2).length → numG ((pcS 44 x2).getD j ⟨#[]⟩) 8192) : planE A (restKL x2) = if (pcS 44 x2).length ≤ 34 then 0 else 2 := by
  have h1 : 1 ≤ (pcS 44 x2).length := by
    rw [pcS_len]
    cases h : pc 44 x2.data.toList with
    | nil => exact absurd h (pc_ne _)
    | cons a l => simp
  have hl : (restKL x2).length = (pcS 44 x2).length := List.length_map ..
  have hin : inB A 1000000 = true := by unfold inB; simp; omega
  have hout : (restKL x2).any outB = false := by
    rw [List.any_eq_false]
    intro y hy
    obtain ⟨x, hx, rfl⟩ := List.mem_map.1 hy
    obtain ⟨k, hk, rfl⟩ := List.mem_iff_getElem.1 hx
    have := hj k hk
    rw [List.getD, List.getElem?_eq_getElem hk] at this
    have h2 := this.2
    unfold outB inB numN
    simp only [Option.getD_some] at h2
    simp
    omega
  unfold planE planOK
  rw [hin, hout, hl]
  by_cases h : (pcS 44 x2).length ≤ 34
  · simp [h, h1]
  · simp [h]
theorem read_round (x2 : ByteArray) (A : Int) (b : Bool) (w W w3 w4 : World) (BP B k : Nat) (p : Option Addr) (c : Nat) (x : ByteArray) (g' cap' : Nat) (tmp : Obj) (b3 : Below W.drew.heap.size W.drew w3)
    (ho3 : w3.ownsRow (B + 3) 3 1 (.slice p k c) k (((restKL x2).take k).map (Value.int .i64)))
    (hown : w4.ownsRow (B + 3) 3 1 (.slice (some ⟨g', 0, none⟩) (k + 1) cap') (k + 1) (((restKL x2).take k).map (Value.int .i64) ++ [.int .i64 (numN x : Int)]))
    (hgrow : (w3.alloc tmp).grownBy w4 (Value.slice p k c).ownBlock) (hne : ∀ j, some j = (Value.slice p k c).ownBlock → B + 3 ≤ j) (hp : PlanAt W BP A b (.slice p k c)) (hr0 : PlanAt W w.heap.size 0 false (.slice none 0 0)) (hb : Below w.heap.size w W)
    (hj : ∀ j, j < k → numG ((pcS 44 x2).getD j ⟨#[]⟩) 8192) (hsW : B + 3 ≤ W.heap.size) (hBP : w.heap.size < BP) (hPB : BP < B) (hk : k < (pcS 44 x2).length) (hxx : (pcS 44 x2).getD k ⟨#[]⟩ = x) (hg : numG x 8192) :
    KeepsOthers W (w4.setCell ⟨BP, 2, none⟩ (.slice (some ⟨g', 0, none⟩) (k + 1) cap')) ∧ KeepsBox B W (w4.setCell ⟨BP, 2, none⟩ (.slice (some ⟨g', 0, none⟩) (k + 1) cap')) ∧
    ((∃ v, PlanAt (w4.setCell ⟨BP, 2, none⟩ (.slice (some ⟨g', 0, none⟩) (k + 1) cap')) BP A b v ∧ (w4.setCell ⟨BP, 2, none⟩ (.slice (some ⟨g', 0, none⟩) (k + 1) cap')).ownsRow (B + 3) 3 1 v (k + 1) (((restKL x2).take (k + 1)).map (Value.int .i64))) ∧
      PlanAt (w4.setCell ⟨BP, 2, none⟩ (.slice (some ⟨g', 0, none⟩) (k + 1) cap')) w.heap.size 0 false (.slice none 0 0) ∧ Below w.heap.size w (w4.setCell ⟨BP, 2, none⟩ (.slice (some ⟨g', 0, none⟩) (k + 1) cap')) ∧ (∀ j, j < k + 1 → numG ((pcS 44 x2).getD j ⟨#[]⟩) 8192) ∧ B + 3 ≤ (w4.setCell ⟨BP, 2, none⟩ (.slice (some ⟨g', 0, none⟩) (k + 1) cap')).heap.size) := by
  have c3 : Below W.heap.size W w3 := (Below.refl _ W).drew.trans b3
  have c5 : Below (B + 3) W w4 := ((c3.mono hsW).alloc (Nat.le_trans hsW c3.size) tmp).grown hgrow (by rw [World.size_alloc]; have := c3.size; omega) (fun j ej => hne j ej.symm)
  have hs : B + 3 ≤ (w4.setCell ⟨BP, 2, none⟩ (.slice (some ⟨g', 0, none⟩) (k + 1) cap')).heap.size := Nat.le_trans (Nat.le_trans hsW c5.size) (grownBy_set w4 ⟨BP, 2, none⟩ _).size
  refine ⟨(appended_keeps c3 ho3 hgrow).trans (KeepsOthers.setCell _ _ _), fun j h1 h2 => (Below.heap_setCell _ _ _ j (by simp; omega)).trans (c5.block j (by omega)), ⟨_, (hp.block (c5.block BP (by omega))).set2 _, ?_⟩, hr0.block ((Below.heap_setCell _ _ _ _ (by simp; omega)).trans (c5.block _ (by omega))), (hb.trans (c5.mono (by omega))).setCell (p := ⟨BP, 2, none⟩) (by simp; omega) _, fun j hj' => ?_, hs⟩
  · rw [← restKL_snoc x2 k hk x hxx, List.map_append]
    refine hown.kept (grownBy_set w4 ⟨BP, 2, none⟩ _) (Or.inr ?_)
    intro e
    have := (hown.lt BP e).1
    omega
  · rcases Nat.lt_or_ge j k with h | h
    · exact hj j h
    · obtain rfl : j = k := by omega
      rw [hxx]; exact hg
theorem set3_heap (W : World) (B D : Nat) (h : D ≠ B) (x y z : Value) : (((W.setCell ⟨B, 0, none⟩ x).setCell ⟨B, 1, none⟩ y).setCell ⟨B, 2, none⟩ z).heap[D]? = W.heap[D]? := by
  have h1 := Below.heap_setCell W ⟨B, 0, none⟩ x D h
  have h2 := Below.heap_setCell (W.setCell ⟨B, 0, none⟩ x) ⟨B, 1, none⟩ y D h
  have h3 := Below.heap_setCell ((W.setCell ⟨B, 0, none⟩ x).setCell ⟨B, 1, none⟩ y) ⟨B, 2, none⟩ z D h
  rw [h3, h2, h1]
theorem read_end (x2 : ByteArray) (A : Int) (b : Bool) (w W3 : World) (B D : Nat) (p : Option Addr) (c : Nat) (R0 : Ending → World → Prop) (tmps : Array Value)
    (ht : tmps.getD 2 undef = .pointer (some ⟨w.heap.size, 0, none⟩)) (hRB : w.heap.size < B) (hD : B + 3 ≤ D) (c3 : Below w.heap.size w W3) (hr3 : PlanAt W3 w.heap.size 0 false (.slice none 0 0)) (hk3 : W3.heap[D]? = some (.deferred (some [])))
    (ho3 : W3.ownsRow (B + 3) 3 1 (.slice p (restKL x2).length c) (restKL x2).length ((restKL x2).map (Value.int .i64)))
    (hyes : ∀ v w', IntsNew w.heap.size w' v (restKL x2) → R0 (.returned (planV A b v)) w') :
    LeavesInM Fence.wide 0 Tryd.prog Tryd.f46 tmps (fun e w' => R0 e w' ∧ Below w.heap.size w w') [{ target := .collected D, args := #[] }] .returning (((W3.setCell ⟨w.heap.size, 0, none⟩ (.int .i64 A)).setCell ⟨w.heap.size, 1, none⟩ (.bool b)).setCell ⟨w.heap.size, 2, none⟩ (.slice p (restKL x2).length c)) := by
  have ho4 := own_set (own_set (own_set ho3 ⟨w.heap.size, 0, none⟩ (.int .i64 A) (by simp; omega)) ⟨w.heap.size, 1, none⟩ (.bool b) (by simp; omega)) ⟨w.heap.size, 2, none⟩ (.slice p (restKL x2).length c) (by simp; omega)
  have hp4 := hr3.set A b (.slice p (restKL x2).length c)
  have c4 := below_set (below_set (below_set c3 w.heap.size (Nat.le_refl _) 0 (.int .i64 A)) w.heap.size (Nat.le_refl _) 1 (.bool b)) w.heap.size (Nat.le_refl _) 2 (.slice p (restKL x2).length c)
  have hk4 := (set3_heap W3 w.heap.size D (by omega) (.int .i64 A) (.bool b) (.slice p (restKL x2).length c)).trans hk3
  generalize (((W3.setCell ⟨w.heap.size, 0, none⟩ (.int .i64 A)).setCell ⟨w.heap.size, 1, none⟩ (.bool b)).setCell ⟨w.heap.size, 2, none⟩ (.slice p (restKL x2).length c)) = W4 at *
  refine ⟨by simp, Or.inl ⟨D, _, rfl, run_takeDeferred hk4, ?_⟩⟩
  refine ⟨_, results_plan rfl tmps _ w.heap.size A b (.slice p (restKL x2).length c) (hp4.block (World.putObj_heap_other (by omega))) ht, hyes _ _ (own_base (ownsRow_putObj ho4 _ hk4 rfl) (by omega)), ?_⟩
  exact c4.grown (grownBy_putObj' W4 D _) c4.size fun j ej => by cases ej; omega
set_option maxRecDepth 100000 in
set_option maxHeartbeats 2000000 in
theorem read_rest (x2 : ByteArray) (A : Int) (b : Bool) (w wc : World) (B1 BP : Nat) (R0 : Ending → World → Prop) (v0 u1 u5 u6 u7 u8 u9 u10 u11 u12 u13 u14 u15 u16 u17 u18 u19 u20 u21 u22 u23 u24 u25 u26 u27 u28 u29 u30 u31 u32 u33 u34 u35 u36 u37 u38 u39 u40 u41 u42 u43 u44 u45 u46 u47 u48 u49 : Value) (ht : Tab w) (he : Errs w) (c1 : Below w.heap.size w wc)
    (hres : PlanAt wc w.heap.size 0 false (.slice none 0 0)) (hP : PlanAt wc BP A b (.slice none 0 0)) (hBP : w.heap.size < BP) (hc2 : wc.cell? ⟨B1, 2, none⟩ = some (.string x2)) (hs2 : x2.size ≤ 1000000) (hA : 0 ≤ A ∧ A ≤ 1000000)
    (hyes : restOK x2 → ∀ v w', IntsNew w.heap.size w' v (restKL x2) → R0 (.returned (planV A b v)) w') (hno : ¬ restOK x2 → ∀ w', R0 (.panicked [{ v := malV, recovered := false }]) w') :
    WpAt 46 Fence.wide 0 Tryd.prog rest46 (postP Fence.wide 0 Tryd.prog Tryd.f46 fun e w' => R0 e w' ∧ Below w.heap.size w w')
      { tmps := #[v0, u1, .pointer (some ⟨w.heap.size, 0, none⟩), .slice (some ⟨B1, 0, none⟩) 3 3, .pointer (some ⟨BP, 0, none⟩), u5, u6, u7, u8, u9, u10, u11, u12, u13, u14, u15, u16, u17, u18, u19, u20, u21, u22, u23, u24, u25, u26, u27, u28, u29, u30, u31, u32, u33, u34, u35, u36, u37, u38, u39, u40, u41, u42, u43, u44, u45, u46, u47, u48, u49], defers := [] } wc := by
  refine WpAt.seq trivial ?_
  refine WpAt.seq trivial (WpAt.ofw ?_)
  go_wp2_with fail
  refine (splitSeq_any x2 44 _).mono ?_
  rintro e w2 ⟨rfl, hbx, hsz, b1⟩
  have hPB : BP < wc.heap.size := World.block_lt_of_cell? wc _ hP.1.1
  have hRB : w.heap.size < wc.heap.size := World.block_lt_of_cell? wc _ hres.1.1
  have hP2 := hP.below b1
  have hr2 := hres.below b1
  have c2 := c1.trans (b1.mono c1.size)
  generalize wc.heap.size = B at *
  clear b1 c1 hP hres hc2
  go_wp2_with fail
  refine WpAt.block (F := Fence.wide) trivial ?_
  refine wpAt_rangeBox (fnr := Tryd.f46) Tryd.func46 (gf := 80) (lb := #[.pointer (some ⟨B + 1, 0, none⟩), .pointer (some ⟨B, 0, none⟩), .pointer (some ⟨B + 2, 0, none⟩)]) ?hg (enters_of Tryd.func80 (by kernel_rfl) rfl)
    (xs := pcS 44 x2) (B := B) (S0 := Boxes B 44 x2) (seq_box 44 x2 hs2 B) (by omega) (fun o1 o2 => ?boxes) ?hps
    (fun k W => (∃ v, PlanAt W BP A b v ∧ W.ownsRow (B + 3) 3 1 v k (((restKL x2).take k).map (Value.int .i64))) ∧ PlanAt W w.heap.size 0 false (.slice none 0 0) ∧ Below w.heap.size w W ∧ (∀ j, j < k → numG ((pcS 44 x2).getD j ⟨#[]⟩) 8192) ∧ B + 3 ≤ W.heap.size)
    (fun _ _ => False) (fun ch W => ch = [{ v := malV, recovered := false }] ∧ ¬ restOK x2 ∧ Below w.heap.size w W) ?stands (fun _ _ _ _ h _ _ => h) ⟨⟨_, hP2, World.ownsRow_nil _ _ _ _⟩, hr2, c2, fun j hj => absurd hj (Nat.not_lt_zero _), by omega⟩
    (fun x => { tmps := #[v0, u1, .pointer (some ⟨w.heap.size, 0, none⟩), .slice (some ⟨B1, 0, none⟩) 3 3, .pointer (some ⟨BP, 0, none⟩), .string x, u6, u7, u8, u9, u10, u11, u12, u13, u14, u15, u16, u17, u18, u19, u20, u21, u22, u23, u24, u25, u26, u27, u28, u29, u30, u31, u32, .slice (some ⟨B1, 0, none⟩) 3 3, .pointer (some ⟨B1, 2, none⟩), .string x2, .func (.func 80) #[] #[.pointer (some ⟨B + 1, 0, none⟩), .pointer (some ⟨B, 0, none⟩), .pointer (some ⟨B + 2, 0, none⟩)], .string x, u38, u39, u40, u41, u42, u43, u44, u45, u46, u47, u48, u49], defers := [] }) ?assign ?body ?done (fun _ _ _ _ h _ => h.elim) ?panic
  case hg => rfl
  case hps => rfl
  case boxes =>
    obtain ⟨q1, q2, q3⟩ := hbx
    refine ⟨?_, ?_, ?_⟩
    · rw [Below.heap_alloc _ _ _ (by rw [World.size_alloc]; omega), Below.heap_alloc _ _ _ (by omega)]; exact q1
    · rw [Below.heap_alloc _ _ _ (by rw [World.size_alloc]; omega), Below.heap_alloc _ _ _ (by omega)]; exact q2
    · rw [Below.heap_alloc _ _ _ (by rw [World.size_alloc]; omega), Below.heap_alloc _ _ _ (by omega)]; exact q3
  case stands =>
    rintro k W W' row ⟨⟨v, hp, ho⟩, hr0, hb, hj, hsW⟩ hg hr
    refine ⟨⟨v, hp.block (stands_cell hp.1.1 (by simp; omega) hg hr), stands_own ho (by omega) hg hr⟩, hr0.block (stands_cell hr0.1.1 (by simp; omega) hg hr), hb.grown hg hb.size fun j ej => ?_, hj, Nat.le_trans hsW hg.size⟩
    rcases hr _ ej with rfl | ⟨hD, _⟩
    · omega
    · omega
  case assign =>
    intro l x W K hK
    gi_wp2
    exact hK
  case body =>
    rintro l k W ⟨⟨v, ⟨⟨hp0, hp1, hp2⟩, hpf⟩, ho⟩, hr0, hb, hj, hsW⟩ hk
    obtain ⟨i0, hi0, hz0, hz1, hz2⟩ := info_parts infoI
    have hpl : (pcS 44 x2).length ≤ 1000001 := pcS_short 44 x2 hs2
    obtain ⟨p, c, rfl⟩ := ownsRow_slice ho
    have hxs : ((pcS 44 x2).getD k ⟨#[]⟩).size ≤ 1000000 := Nat.le_trans (pcS_size 44 x2 k) hs2
    obtain ⟨x, hxx⟩ : ∃ x, (pcS 44 x2).getD k ⟨#[]⟩ = x := ⟨_, rfl⟩
    rw [hxx] at hxs
    have hpf2 := hpf 2
    rw [hxx]
    have HR := Lib.hid hr0
    have HO := Lib.hid ho
    have HB := Lib.hid hb
    have hp2d : W.drew.cell? ⟨BP, 2, none⟩ = some (.slice p k c) := hp2
    have hpf2d : W.drew.frozen? ⟨BP, 2, none⟩ = false := hpf2
    have ht2 := ht.below hb.drew
    have he2 := he.below hb.drew
    have hne : ∀ j, some j = (Value.slice p k c).ownBlock → B + 3 ≤ j := fun j e => (ho.lt j e.symm).1
    have hneP : some BP ≠ (Value.slice p k c).ownBlock := fun e => by have := hne _ e; omega
    have hPL := World.block_lt_of_cell? W _ hp0
    by_cases hg : numG x 8192
    · gi_wp2
      refine wpIn_region_any (by kernel_rfl) ?_
      try (change wpAnyIn _ _ _ _ _ _ _ _ _ (World.drew _))
      refine wpAnyIn_ready (rs := [0, 2]) (by kernel_rfl) (by simp) ?_
      refine AllReadyIn.cons rfl (fun K hK => ?_) ?_
      · go_simp
        refine hK _ _ ?_
        clear hK K
        refine wpAnyIn_ready (rs := [1, 2]) (by kernel_rfl) (by simp) ?_
        refine AllReadyIn.cons rfl (fun K hK => ?_) ?_
        · go_simp
          refine hK _ _ ?_
          clear hK K
          refine wpAnyIn_ready (rs := [2]) (by kernel_rfl) (by simp) ?_
          refine AllReadyIn.cons rfl (fun K hK => ?_) ?_
          · go_simp
            refine hK _ _ ?_
            clear hK K
            refine wpAnyIn_ready (rs := [3]) (by kernel_rfl) (by simp) ?_
            refine AllReadyIn.cons rfl (fun K hK => ?_) ?_
            · go_simp
              (refine ⟨trivial, rfl, (CallsIn.inRound l (callsIn_wide.2 (number_yes x hxs 8192 (by decide) (by decide) hg W.drew ht2 he2))).mono ?_⟩; rintro e w3 ⟨rfl, b3⟩; have hs3 : W.heap.size ≤ w3.heap.size := b3.size; have hp23 := cell_kept hp2d b3; have hp24 : (w3.alloc (.cells #[.int .i64 (numN x : Int)] 3)).cell? ⟨BP, 2, none⟩ = some (.slice p k c) := cell_old hp23; have hpf23 := free_kept hpf2d hPL b3; have hpf24 : (w3.alloc (.cells #[.int .i64 (numN x : Int)] 3)).frozen? ⟨BP, 2, none⟩ = false := free_kept hpf23 (Nat.lt_of_lt_of_le hPL hs3) ((Below.refl _ _).alloc (Nat.le_refl _) _); have ho3 := own_below (w := W.drew) ho b3; dsimp only)
              refine hK _ _ ?_
              clear hK K
              refine wpAnyIn_ready (rs := [4]) (by kernel_rfl) (by simp) ?_
              refine AllReadyIn.cons rfl (fun K hK => ?_) ?_
              · go_simp
                refine hK _ _ ?_
                clear hK K
                refine wpAnyIn_ready (rs := [5]) (by kernel_rfl) (by simp) ?_
                refine AllReadyIn.cons rfl (fun K hK => ?_) ?_
                · (refine stepIn_append rfl (.tmp 39) (.tmp 42) 22 rfl (B + 3) 3 i0 (.int .i64 0) 1 8 Tryd.underlying22 hi0 hz0 hz1 hz2 rfl (by decide) (.slice p k c) k (((restKL x2).take k).map (Value.int .i64)) rfl (ho3.alloc _) ⟨w3.heap.size, 0, none⟩ 1 1 [.int .i64 (numN x : Int)] rfl rfl (cell_one_new _ _ _) (fun q hq => by simp at hq; subst hq; rfl) (by decide) (by unfold maxLen; omega) (by omega) (by rw [World.size_alloc]; omega) ?_; intro g' cap' w4 hown hgrow; have hp25 := (World.grownBy.cell_far hgrow ⟨BP, 2, none⟩ (Nat.lt_of_lt_of_le (Nat.lt_of_lt_of_le hPL hs3) (by rw [World.size_alloc]; exact Nat.le_succ _)) hneP).trans hp24; have hpf25 := (World.grownBy.frozen_far hgrow ⟨BP, 2, none⟩ (Nat.lt_of_lt_of_le (Nat.lt_of_lt_of_le hPL hs3) (by rw [World.size_alloc]; exact Nat.le_succ _)) hneP).trans hpf24)
                  refine hK _ _ ?_
                  clear hK K
                  refine wpAnyIn_ready (rs := [6]) (by kernel_rfl) (by simp) ?_
                  refine AllReadyIn.cons rfl (fun K hK => ?_) ?_
                  · go_simp
                    refine hK _ _ ?_
                    clear hK K
                    refine wpAnyIn_ready (rs := [7]) (by kernel_rfl) (by simp) ?_
                    refine AllReadyIn.cons rfl (fun K hK => ?_) ?_
                    · go_simp
                      refine hK _ _ ?_
                      clear hK K
                      refine wpAnyIn_done (by kernel_rfl) ?_ _
                      exact read_round x2 A b w W w3 w4 BP B k p c x g' cap' _ b3 ho3 hown hgrow hne ⟨⟨hp0, hp1, hp2⟩, hpf⟩ hr0 hb hj hsW hBP hPB hk hxx hg
                    exact AllReadyIn.nil
                  exact AllReadyIn.nil
                exact AllReadyIn.nil
              exact AllReadyIn.nil
            exact AllReadyIn.nil
          exact AllReadyIn.nil
        refine AllReadyIn.cons rfl (fun K hK => ?_) ?_
        · go_simp
          refine hK _ _ ?_
          clear hK K
          refine wpAnyIn_ready (rs := [1, 3]) (by kernel_rfl) (by simp) ?_
          refine AllReadyIn.cons rfl (fun K hK => ?_) ?_
          · go_simp
            refine hK _ _ ?_
            clear hK K
            refine wpAnyIn_ready (rs := [3]) (by kernel_rfl) (by simp) ?_
            refine AllReadyIn.cons rfl (fun K hK => ?_) ?_
            · go_simp
              (refine ⟨trivial, rfl, (CallsIn.inRound l (callsIn_wide.2 (number_yes x hxs 8192 (by decide) (by decide) hg W.drew ht2 he2))).mono ?_⟩; rintro e w3 ⟨rfl, b3⟩; have hs3 : W.heap.size ≤ w3.heap.size := b3.size; have hp23 := cell_kept hp2d b3; have hp24 : (w3.alloc (.cells #[.int .i64 (numN x : Int)] 3)).cell? ⟨BP, 2, none⟩ = some (.slice p k c) := cell_old hp23; have hpf23 := free_kept hpf2d hPL b3; have hpf24 : (w3.alloc (.cells #[.int .i64 (numN x : Int)] 3)).frozen? ⟨BP, 2, none⟩ = false := free_kept hpf23 (Nat.lt_of_lt_of_le hPL hs3) ((Below.refl _ _).alloc (Nat.le_refl _) _); have ho3 := own_below (w := W.drew) ho b3; dsimp only)
              refine hK _ _ ?_
              clear hK K
              refine wpAnyIn_ready (rs := [4]) (by kernel_rfl) (by simp) ?_
              refine AllReadyIn.cons rfl (fun K hK => ?_) ?_
              · go_simp
                refine hK _ _ ?_
                clear hK K
                refine wpAnyIn_ready (rs := [5]) (by kernel_rfl) (by simp) ?_
                refine AllReadyIn.cons rfl (fun K hK => ?_) ?_
                · (refine stepIn_append rfl (.tmp 39) (.tmp 42) 22 rfl (B + 3) 3 i0 (.int .i64 0) 1 8 Tryd.underlying22 hi0 hz0 hz1 hz2 rfl (by decide) (.slice p k c) k (((restKL x2).take k).map (Value.int .i64)) rfl (ho3.alloc _) ⟨w3.heap.size, 0, none⟩ 1 1 [.int .i64 (numN x : Int)] rfl rfl (cell_one_new _ _ _) (fun q hq => by simp at hq; subst hq; rfl) (by decide) (by unfold maxLen; omega) (by omega) (by rw [World.size_alloc]; omega) ?_; intro g' cap' w4 hown hgrow; have hp25 := (World.grownBy.cell_far hgrow ⟨BP, 2, none⟩ (Nat.lt_of_lt_of_le (Nat.lt_of_lt_of_le hPL hs3) (by rw [World.size_alloc]; exact Nat.le_succ _)) hneP).trans hp24; have hpf25 := (World.grownBy.frozen_far hgrow ⟨BP, 2, none⟩ (Nat.lt_of_lt_of_le (Nat.lt_of_lt_of_le hPL hs3) (by rw [World.size_alloc]; exact Nat.le_succ _)) hneP).trans hpf24)
                  refine hK _ _ ?_
                  clear hK K
                  refine wpAnyIn_ready (rs := [6]) (by kernel_rfl) (by simp) ?_
                  refine AllReadyIn.cons rfl (fun K hK => ?_) ?_
                  · go_simp
                    refine hK _ _ ?_
                    clear hK K
                    refine wpAnyIn_ready (rs := [7]) (by kernel_rfl) (by simp) ?_
                    refine AllReadyIn.cons rfl (fun K hK => ?_) ?_
                    · go_simp
                      refine hK _ _ ?_
                      clear hK K
                      refine wpAnyIn_done (by kernel_rfl) ?_ _
                      exact read_round x2 A b w W w3 w4 BP B k p c x g' cap' _ b3 ho3 hown hgrow hne ⟨⟨hp0, hp1, hp2⟩, hpf⟩ hr0 hb hj hsW hBP hPB hk hxx hg
                    exact AllReadyIn.nil
                  exact AllReadyIn.nil
                exact AllReadyIn.nil
              exact AllReadyIn.nil
            exact AllReadyIn.nil
          refine AllReadyIn.cons rfl (fun K hK => ?_) ?_
          · go_simp
            (refine ⟨trivial, rfl, (CallsIn.inRound l (callsIn_wide.2 (number_yes x hxs 8192 (by decide) (by decide) hg W.drew ht2 he2))).mono ?_⟩; rintro e w3 ⟨rfl, b3⟩; have hs3 : W.heap.size ≤ w3.heap.size := b3.size; have hp23 := cell_kept hp2d b3; have hp24 : (w3.alloc (.cells #[.int .i64 (numN x : Int)] 3)).cell? ⟨BP, 2, none⟩ = some (.slice p k c) := cell_old hp23; have hpf23 := free_kept hpf2d hPL b3; have hpf24 : (w3.alloc (.cells #[.int .i64 (numN x : Int)] 3)).frozen? ⟨BP, 2, none⟩ = false := free_kept hpf23 (Nat.lt_of_lt_of_le hPL hs3) ((Below.refl _ _).alloc (Nat.le_refl _) _); have ho3 := own_below (w := W.drew) ho b3; dsimp only)
            refine hK _ _ ?_
            clear hK K
            refine wpAnyIn_ready (rs := [1, 4]) (by kernel_rfl) (by simp) ?_
            refine AllReadyIn.cons rfl (fun K hK => ?_) ?_
            · go_simp
              refine hK _ _ ?_
              clear hK K
              refine wpAnyIn_ready (rs := [4]) (by kernel_rfl) (by simp) ?_
              refine AllReadyIn.cons rfl (fun K hK => ?_) ?_
              · go_simp
                refine hK _ _ ?_
                clear hK K
                refine wpAnyIn_ready (rs := [5]) (by kernel_rfl) (by simp) ?_
                refine AllReadyIn.cons rfl (fun K hK => ?_) ?_
                · (refine stepIn_append rfl (.tmp 39) (.tmp 42) 22 rfl (B + 3) 3 i0 (.int .i64 0) 1 8 Tryd.underlying22 hi0 hz0 hz1 hz2 rfl (by decide) (.slice p k c) k (((restKL x2).take k).map (Value.int .i64)) rfl (ho3.alloc _) ⟨w3.heap.size, 0, none⟩ 1 1 [.int .i64 (numN x : Int)] rfl rfl (cell_one_new _ _ _) (fun q hq => by simp at hq; subst hq; rfl) (by decide) (by unfold maxLen; omega) (by omega) (by rw [World.size_alloc]; omega) ?_; intro g' cap' w4 hown hgrow; have hp25 := (World.grownBy.cell_far hgrow ⟨BP, 2, none⟩ (Nat.lt_of_lt_of_le (Nat.lt_of_lt_of_le hPL hs3) (by rw [World.size_alloc]; exact Nat.le_succ _)) hneP).trans hp24; have hpf25 := (World.grownBy.frozen_far hgrow ⟨BP, 2, none⟩ (Nat.lt_of_lt_of_le (Nat.lt_of_lt_of_le hPL hs3) (by rw [World.size_alloc]; exact Nat.le_succ _)) hneP).trans hpf24)
                  refine hK _ _ ?_
                  clear hK K
                  refine wpAnyIn_ready (rs := [6]) (by kernel_rfl) (by simp) ?_
                  refine AllReadyIn.cons rfl (fun K hK => ?_) ?_
                  · go_simp
                    refine hK _ _ ?_
                    clear hK K
                    refine wpAnyIn_ready (rs := [7]) (by kernel_rfl) (by simp) ?_
                    refine AllReadyIn.cons rfl (fun K hK => ?_) ?_
                    · go_simp
                      refine hK _ _ ?_
                      clear hK K
                      refine wpAnyIn_done (by kernel_rfl) ?_ _
                      exact read_round x2 A b w W w3 w4 BP B k p c x g' cap' _ b3 ho3 hown hgrow hne ⟨⟨hp0, hp1, hp2⟩, hpf⟩ hr0 hb hj hsW hBP hPB hk hxx hg
                    exact AllReadyIn.nil
                  exact AllReadyIn.nil
                exact AllReadyIn.nil
              exact AllReadyIn.nil
            refine AllReadyIn.cons rfl (fun K hK => ?_) ?_
            · go_simp
              refine hK _ _ ?_
              clear hK K
              refine wpAnyIn_ready (rs := [1]) (by kernel_rfl) (by simp) ?_
              refine AllReadyIn.cons rfl (fun K hK => ?_) ?_
              · go_simp
                refine hK _ _ ?_
                clear hK K
                refine wpAnyIn_ready (rs := [5]) (by kernel_rfl) (by simp) ?_
                refine AllReadyIn.cons rfl (fun K hK => ?_) ?_
                · (refine stepIn_append rfl (.tmp 39) (.tmp 42) 22 rfl (B + 3) 3 i0 (.int .i64 0) 1 8 Tryd.underlying22 hi0 hz0 hz1 hz2 rfl (by decide) (.slice p k c) k (((restKL x2).take k).map (Value.int .i64)) rfl (ho3.alloc _) ⟨w3.heap.size, 0, none⟩ 1 1 [.int .i64 (numN x : Int)] rfl rfl (cell_one_new _ _ _) (fun q hq => by simp at hq; subst hq; rfl) (by decide) (by unfold maxLen; omega) (by omega) (by rw [World.size_alloc]; omega) ?_; intro g' cap' w4 hown hgrow; have hp25 := (World.grownBy.cell_far hgrow ⟨BP, 2, none⟩ (Nat.lt_of_lt_of_le (Nat.lt_of_lt_of_le hPL hs3) (by rw [World.size_alloc]; exact Nat.le_succ _)) hneP).trans hp24; have hpf25 := (World.grownBy.frozen_far hgrow ⟨BP, 2, none⟩ (Nat.lt_of_lt_of_le (Nat.lt_of_lt_of_le hPL hs3) (by rw [World.size_alloc]; exact Nat.le_succ _)) hneP).trans hpf24)
                  refine hK _ _ ?_
                  clear hK K
                  refine wpAnyIn_ready (rs := [6]) (by kernel_rfl) (by simp) ?_
                  refine AllReadyIn.cons rfl (fun K hK => ?_) ?_
                  · go_simp
                    refine hK _ _ ?_
                    clear hK K
                    refine wpAnyIn_ready (rs := [7]) (by kernel_rfl) (by simp) ?_
                    refine AllReadyIn.cons rfl (fun K hK => ?_) ?_
                    · go_simp
                      refine hK _ _ ?_
                      clear hK K
                      refine wpAnyIn_done (by kernel_rfl) ?_ _
                      exact read_round x2 A b w W w3 w4 BP B k p c x g' cap' _ b3 ho3 hown hgrow hne ⟨⟨hp0, hp1, hp2⟩, hpf⟩ hr0 hb hj hsW hBP hPB hk hxx hg
                    exact AllReadyIn.nil
                  exact AllReadyIn.nil
                exact AllReadyIn.nil
              exact AllReadyIn.nil
            exact AllReadyIn.nil
          exact AllReadyIn.nil
        exact AllReadyIn.nil
      refine AllReadyIn.cons rfl (fun K hK => ?_) ?_
      · go_simp
        refine hK _ _ ?_
        clear hK K
        refine wpAnyIn_ready (rs := [0, 3]) (by kernel_rfl) (by simp) ?_
        refine AllReadyIn.cons rfl (fun K hK => ?_) ?_
        · go_simp
          refine hK _ _ ?_
          clear hK K
          refine wpAnyIn_ready (rs := [1, 3]) (by kernel_rfl) (by simp) ?_
          refine AllReadyIn.cons rfl (fun K hK => ?_) ?_
          · go_simp
            refine hK _ _ ?_
            clear hK K
            refine wpAnyIn_ready (rs := [3]) (by kernel_rfl) (by simp) ?_
            refine AllReadyIn.cons rfl (fun K hK => ?_) ?_
            · go_simp
              (refine ⟨trivial, rfl, (CallsIn.inRound l (callsIn_wide.2 (number_yes x hxs 8192 (by decide) (by decide) hg W.drew ht2 he2))).mono ?_⟩; rintro e w3 ⟨rfl, b3⟩; have hs3 : W.heap.size ≤ w3.heap.size := b3.size; have hp23 := cell_kept hp2d b3; have hp24 : (w3.alloc (.cells #[.int .i64 (numN x : Int)] 3)).cell? ⟨BP, 2, none⟩ = some (.slice p k c) := cell_old hp23; have hpf23 := free_kept hpf2d hPL b3; have hpf24 : (w3.alloc (.cells #[.int .i64 (numN x : Int)] 3)).frozen? ⟨BP, 2, none⟩ = false := free_kept hpf23 (Nat.lt_of_lt_of_le hPL hs3) ((Below.refl _ _).alloc (Nat.le_refl _) _); have ho3 := own_below (w := W.drew) ho b3; dsimp only)
              refine hK _ _ ?_
              clear hK K
              refine wpAnyIn_ready (rs := [4]) (by kernel_rfl) (by simp) ?_
              refine AllReadyIn.cons rfl (fun K hK => ?_) ?_
              · go_simp
                refine hK _ _ ?_
                clear hK K
                refine wpAnyIn_ready (rs := [5]) (by kernel_rfl) (by simp) ?_
                refine AllReadyIn.cons rfl (fun K hK => ?_) ?_
                · (refine stepIn_append rfl (.tmp 39) (.tmp 42) 22 rfl (B + 3) 3 i0 (.int .i64 0) 1 8 Tryd.underlying22 hi0 hz0 hz1 hz2 rfl (by decide) (.slice p k c) k (((restKL x2).take k).map (Value.int .i64)) rfl (ho3.alloc _) ⟨w3.heap.size, 0, none⟩ 1 1 [.int .i64 (numN x : Int)] rfl rfl (cell_one_new _ _ _) (fun q hq => by simp at hq; subst hq; rfl) (by decide) (by unfold maxLen; omega) (by omega) (by rw [World.size_alloc]; omega) ?_; intro g' cap' w4 hown hgrow; have hp25 := (World.grownBy.cell_far hgrow ⟨BP, 2, none⟩ (Nat.lt_of_lt_of_le (Nat.lt_of_lt_of_le hPL hs3) (by rw [World.size_alloc]; exact Nat.le_succ _)) hneP).trans hp24; have hpf25 := (World.grownBy.frozen_far hgrow ⟨BP, 2, none⟩ (Nat.lt_of_lt_of_le (Nat.lt_of_lt_of_le hPL hs3) (by rw [World.size_alloc]; exact Nat.le_succ _)) hneP).trans hpf24)
                  refine hK _ _ ?_
                  clear hK K
                  refine wpAnyIn_ready (rs := [6]) (by kernel_rfl) (by simp) ?_
                  refine AllReadyIn.cons rfl (fun K hK => ?_) ?_
                  · go_simp
                    refine hK _ _ ?_
                    clear hK K
                    refine wpAnyIn_ready (rs := [7]) (by kernel_rfl) (by simp) ?_
                    refine AllReadyIn.cons rfl (fun K hK => ?_) ?_
                    · go_simp
                      refine hK _ _ ?_
                      clear hK K
                      refine wpAnyIn_done (by kernel_rfl) ?_ _
                      exact read_round x2 A b w W w3 w4 BP B k p c x g' cap' _ b3 ho3 hown hgrow hne ⟨⟨hp0, hp1, hp2⟩, hpf⟩ hr0 hb hj hsW hBP hPB hk hxx hg
                    exact AllReadyIn.nil
                  exact AllReadyIn.nil
                exact AllReadyIn.nil
              exact AllReadyIn.nil
            exact AllReadyIn.nil
          refine AllReadyIn.cons rfl (fun K hK => ?_) ?_
          · go_simp
            (refine ⟨trivial, rfl, (CallsIn.inRound l (callsIn_wide.2 (number_yes x hxs 8192 (by decide) (by decide) hg W.drew ht2 he2))).mono ?_⟩; rintro e w3 ⟨rfl, b3⟩; have hs3 : W.heap.size ≤ w3.heap.size := b3.size; have hp23 := cell_kept hp2d b3; have hp24 : (w3.alloc (.cells #[.int .i64 (numN x : Int)] 3)).cell? ⟨BP, 2, none⟩ = some (.slice p k c) := cell_old hp23; have hpf23 := free_kept hpf2d hPL b3; have hpf24 : (w3.alloc (.cells #[.int .i64 (numN x : Int)] 3)).frozen? ⟨BP, 2, none⟩ = false := free_kept hpf23 (Nat.lt_of_lt_of_le hPL hs3) ((Below.refl _ _).alloc (Nat.le_refl _) _); have ho3 := own_below (w := W.drew) ho b3; dsimp only)
            refine hK _ _ ?_
            clear hK K
            refine wpAnyIn_ready (rs := [1, 4]) (by kernel_rfl) (by simp) ?_
            refine AllReadyIn.cons rfl (fun K hK => ?_) ?_
            · go_simp
              refine hK _ _ ?_
              clear hK K
              refine wpAnyIn_ready (rs := [4]) (by kernel_rfl) (by simp) ?_
              refine AllReadyIn.cons rfl (fun K hK => ?_) ?_
              · go_simp
                refine hK _ _ ?_
                clear hK K
                refine wpAnyIn_ready (rs := [5]) (by kernel_rfl) (by simp) ?_
                refine AllReadyIn.cons rfl (fun K hK => ?_) ?_
                · (refine stepIn_append rfl (.tmp 39) (.tmp 42) 22 rfl (B + 3) 3 i0 (.int .i64 0) 1 8 Tryd.underlying22 hi0 hz0 hz1 hz2 rfl (by decide) (.slice p k c) k (((restKL x2).take k).map (Value.int .i64)) rfl (ho3.alloc _) ⟨w3.heap.size, 0, none⟩ 1 1 [.int .i64 (numN x : Int)] rfl rfl (cell_one_new _ _ _) (fun q hq => by simp at hq; subst hq; rfl) (by decide) (by unfold maxLen; omega) (by omega) (by rw [World.size_alloc]; omega) ?_; intro g' cap' w4 hown hgrow; have hp25 := (World.grownBy.cell_far hgrow ⟨BP, 2, none⟩ (Nat.lt_of_lt_of_le (Nat.lt_of_lt_of_le hPL hs3) (by rw [World.size_alloc]; exact Nat.le_succ _)) hneP).trans hp24; have hpf25 := (World.grownBy.frozen_far hgrow ⟨BP, 2, none⟩ (Nat.lt_of_lt_of_le (Nat.lt_of_lt_of_le hPL hs3) (by rw [World.size_alloc]; exact Nat.le_succ _)) hneP).trans hpf24)
                  refine hK _ _ ?_
                  clear hK K
                  refine wpAnyIn_ready (rs := [6]) (by kernel_rfl) (by simp) ?_
                  refine AllReadyIn.cons rfl (fun K hK => ?_) ?_
                  · go_simp
                    refine hK _ _ ?_
                    clear hK K
                    refine wpAnyIn_ready (rs := [7]) (by kernel_rfl) (by simp) ?_
                    refine AllReadyIn.cons rfl (fun K hK => ?_) ?_
                    · go_simp
                      refine hK _ _ ?_
                      clear hK K
                      refine wpAnyIn_done (by kernel_rfl) ?_ _
                      exact read_round x2 A b w W w3 w4 BP B k p c x g' cap' _ b3 ho3 hown hgrow hne ⟨⟨hp0, hp1, hp2⟩, hpf⟩ hr0 hb hj hsW hBP hPB hk hxx hg
                    exact AllReadyIn.nil
                  exact AllReadyIn.nil
                exact AllReadyIn.nil
              exact AllReadyIn.nil
            refine AllReadyIn.cons rfl (fun K hK => ?_) ?_
            · go_simp
              refine hK _ _ ?_
              clear hK K
              refine wpAnyIn_ready (rs := [1]) (by kernel_rfl) (by simp) ?_
              refine AllReadyIn.cons rfl (fun K hK => ?_) ?_
              · go_simp
                refine hK _ _ ?_
                clear hK K
                refine wpAnyIn_ready (rs := [5]) (by kernel_rfl) (by simp) ?_
                refine AllReadyIn.cons rfl (fun K hK => ?_) ?_
                · (refine stepIn_append rfl (.tmp 39) (.tmp 42) 22 rfl (B + 3) 3 i0 (.int .i64 0) 1 8 Tryd.underlying22 hi0 hz0 hz1 hz2 rfl (by decide) (.slice p k c) k (((restKL x2).take k).map (Value.int .i64)) rfl (ho3.alloc _) ⟨w3.heap.size, 0, none⟩ 1 1 [.int .i64 (numN x : Int)] rfl rfl (cell_one_new _ _ _) (fun q hq => by simp at hq; subst hq; rfl) (by decide) (by unfold maxLen; omega) (by omega) (by rw [World.size_alloc]; omega) ?_; intro g' cap' w4 hown hgrow; have hp25 := (World.grownBy.cell_far hgrow ⟨BP, 2, none⟩ (Nat.lt_of_lt_of_le (Nat.lt_of_lt_of_le hPL hs3) (by rw [World.size_alloc]; exact Nat.le_succ _)) hneP).trans hp24; have hpf25 := (World.grownBy.frozen_far hgrow ⟨BP, 2, none⟩ (Nat.lt_of_lt_of_le (Nat.lt_of_lt_of_le hPL hs3) (by rw [World.size_alloc]; exact Nat.le_succ _)) hneP).trans hpf24)
                  refine hK _ _ ?_
                  clear hK K
                  refine wpAnyIn_ready (rs := [6]) (by kernel_rfl) (by simp) ?_
                  refine AllReadyIn.cons rfl (fun K hK => ?_) ?_
                  · go_simp
                    refine hK _ _ ?_
                    clear hK K
                    refine wpAnyIn_ready (rs := [7]) (by kernel_rfl) (by simp) ?_
                    refine AllReadyIn.cons rfl (fun K hK => ?_) ?_
                    · go_simp
                      refine hK _ _ ?_
                      clear hK K
                      refine wpAnyIn_done (by kernel_rfl) ?_ _
                      exact read_round x2 A b w W w3 w4 BP B k p c x g' cap' _ b3 ho3 hown hgrow hne ⟨⟨hp0, hp1, hp2⟩, hpf⟩ hr0 hb hj hsW hBP hPB hk hxx hg
                    exact AllReadyIn.nil
                  exact AllReadyIn.nil
                exact AllReadyIn.nil
              exact AllReadyIn.nil
            exact AllReadyIn.nil
          exact AllReadyIn.nil
        refine AllReadyIn.cons rfl (fun K hK => ?_) ?_
        · go_simp
          (refine ⟨trivial, rfl, (CallsIn.inRound l (callsIn_wide.2 (number_yes x hxs 8192 (by decide) (by decide) hg W.drew ht2 he2))).mono ?_⟩; rintro e w3 ⟨rfl, b3⟩; have hs3 : W.heap.size ≤ w3.heap.size := b3.size; have hp23 := cell_kept hp2d b3; have hp24 : (w3.alloc (.cells #[.int .i64 (numN x : Int)] 3)).cell? ⟨BP, 2, none⟩ = some (.slice p k c) := cell_old hp23; have hpf23 := free_kept hpf2d hPL b3; have hpf24 : (w3.alloc (.cells #[.int .i64 (numN x : Int)] 3)).frozen? ⟨BP, 2, none⟩ = false := free_kept hpf23 (Nat.lt_of_lt_of_le hPL hs3) ((Below.refl _ _).alloc (Nat.le_refl _) _); have ho3 := own_below (w := W.drew) ho b3; dsimp only)
          refine hK _ _ ?_
          clear hK K
          refine wpAnyIn_ready (rs := [0, 4]) (by kernel_rfl) (by simp) ?_
          refine AllReadyIn.cons rfl (fun K hK => ?_) ?_
          · go_simp
            refine hK _ _ ?_
            clear hK K
            refine wpAnyIn_ready (rs := [1, 4]) (by kernel_rfl) (by simp) ?_
            refine AllReadyIn.cons rfl (fun K hK => ?_) ?_
            · go_simp
              refine hK _ _ ?_
              clear hK K
              refine wpAnyIn_ready (rs := [4]) (by kernel_rfl) (by simp) ?_
              refine AllReadyIn.cons rfl (fun K hK => ?_) ?_
              · go_simp
                refine hK _ _ ?_
                clear hK K
                refine wpAnyIn_ready (rs := [5]) (by kernel_rfl) (by simp) ?_
                refine AllReadyIn.cons rfl (fun K hK => ?_) ?_
                · (refine stepIn_append rfl (.tmp 39) (.tmp 42) 22 rfl (B + 3) 3 i0 (.int .i64 0) 1 8 Tryd.underlying22 hi0 hz0 hz1 hz2 rfl (by decide) (.slice p k c) k (((restKL x2).take k).map (Value.int .i64)) rfl (ho3.alloc _) ⟨w3.heap.size, 0, none⟩ 1 1 [.int .i64 (numN x : Int)] rfl rfl (cell_one_new _ _ _) (fun q hq => by simp at hq; subst hq; rfl) (by decide) (by unfold maxLen; omega) (by omega) (by rw [World.size_alloc]; omega) ?_; intro g' cap' w4 hown hgrow; have hp25 := (World.grownBy.cell_far hgrow ⟨BP, 2, none⟩ (Nat.lt_of_lt_of_le (Nat.lt_of_lt_of_le hPL hs3) (by rw [World.size_alloc]; exact Nat.le_succ _)) hneP).trans hp24; have hpf25 := (World.grownBy.frozen_far hgrow ⟨BP, 2, none⟩ (Nat.lt_of_lt_of_le (Nat.lt_of_lt_of_le hPL hs3) (by rw [World.size_alloc]; exact Nat.le_succ _)) hneP).trans hpf24)
                  refine hK _ _ ?_
                  clear hK K
                  refine wpAnyIn_ready (rs := [6]) (by kernel_rfl) (by simp) ?_
                  refine AllReadyIn.cons rfl (fun K hK => ?_) ?_
                  · go_simp
                    refine hK _ _ ?_
                    clear hK K
                    refine wpAnyIn_ready (rs := [7]) (by kernel_rfl) (by simp) ?_
                    refine AllReadyIn.cons rfl (fun K hK => ?_) ?_
                    · go_simp
                      refine hK _ _ ?_
                      clear hK K
                      refine wpAnyIn_done (by kernel_rfl) ?_ _
                      exact read_round x2 A b w W w3 w4 BP B k p c x g' cap' _ b3 ho3 hown hgrow hne ⟨⟨hp0, hp1, hp2⟩, hpf⟩ hr0 hb hj hsW hBP hPB hk hxx hg
                    exact AllReadyIn.nil
                  exact AllReadyIn.nil
                exact AllReadyIn.nil
              exact AllReadyIn.nil
            refine AllReadyIn.cons rfl (fun K hK => ?_) ?_
            · go_simp
              refine hK _ _ ?_
              clear hK K
              refine wpAnyIn_ready (rs := [1]) (by kernel_rfl) (by simp) ?_
              refine AllReadyIn.cons rfl (fun K hK => ?_) ?_
              · go_simp
                refine hK _ _ ?_
                clear hK K
                refine wpAnyIn_ready (rs := [5]) (by kernel_rfl) (by simp) ?_
                refine AllReadyIn.cons rfl (fun K hK => ?_) ?_
                · (refine stepIn_append rfl (.tmp 39) (.tmp 42) 22 rfl (B + 3) 3 i0 (.int .i64 0) 1 8 Tryd.underlying22 hi0 hz0 hz1 hz2 rfl (by decide) (.slice p k c) k (((restKL x2).take k).map (Value.int .i64)) rfl (ho3.alloc _) ⟨w3.heap.size, 0, none⟩ 1 1 [.int .i64 (numN x : Int)] rfl rfl (cell_one_new _ _ _) (fun q hq => by simp at hq; subst hq; rfl) (by decide) (by unfold maxLen; omega) (by omega) (by rw [World.size_alloc]; omega) ?_; intro g' cap' w4 hown hgrow; have hp25 := (World.grownBy.cell_far hgrow ⟨BP, 2, none⟩ (Nat.lt_of_lt_of_le (Nat.lt_of_lt_of_le hPL hs3) (by rw [World.size_alloc]; exact Nat.le_succ _)) hneP).trans hp24; have hpf25 := (World.grownBy.frozen_far hgrow ⟨BP, 2, none⟩ (Nat.lt_of_lt_of_le (Nat.lt_of_lt_of_le hPL hs3) (by rw [World.size_alloc]; exact Nat.le_succ _)) hneP).trans hpf24)
                  refine hK _ _ ?_
                  clear hK K
                  refine wpAnyIn_ready (rs := [6]) (by kernel_rfl) (by simp) ?_
                  refine AllReadyIn.cons rfl (fun K hK => ?_) ?_
                  · go_simp
                    refine hK _ _ ?_
                    clear hK K
                    refine wpAnyIn_ready (rs := [7]) (by kernel_rfl) (by simp) ?_
                    refine AllReadyIn.cons rfl (fun K hK => ?_) ?_
                    · go_simp
                      refine hK _ _ ?_
                      clear hK K
                      refine wpAnyIn_done (by kernel_rfl) ?_ _
                      exact read_round x2 A b w W w3 w4 BP B k p c x g' cap' _ b3 ho3 hown hgrow hne ⟨⟨hp0, hp1, hp2⟩, hpf⟩ hr0 hb hj hsW hBP hPB hk hxx hg
                    exact AllReadyIn.nil
                  exact AllReadyIn.nil
                exact AllReadyIn.nil
              exact AllReadyIn.nil
            exact AllReadyIn.nil
          refine AllReadyIn.cons rfl (fun K hK => ?_) ?_
          · go_simp
            refine hK _ _ ?_
            clear hK K
            refine wpAnyIn_ready (rs := [0]) (by kernel_rfl) (by simp) ?_
            refine AllReadyIn.cons rfl (fun K hK => ?_) ?_
            · go_simp
              refine hK _ _ ?_
              clear hK K
              refine wpAnyIn_ready (rs := [1]) (by kernel_rfl) (by simp) ?_
              refine AllReadyIn.cons rfl (fun K hK => ?_) ?_
              · go_simp
                refine hK _ _ ?_
                clear hK K
                refine wpAnyIn_ready (rs := [5]) (by kernel_rfl) (by simp) ?_
                refine AllReadyIn.cons rfl (fun K hK => ?_) ?_
                · (refine stepIn_append rfl (.tmp 39) (.tmp 42) 22 rfl (B + 3) 3 i0 (.int .i64 0) 1 8 Tryd.underlying22 hi0 hz0 hz1 hz2 rfl (by decide) (.slice p k c) k (((restKL x2).take k).map (Value.int .i64)) rfl (ho3.alloc _) ⟨w3.heap.size, 0, none⟩ 1 1 [.int .i64 (numN x : Int)] rfl rfl (cell_one_new _ _ _) (fun q hq => by simp at hq; subst hq; rfl) (by decide) (by unfold maxLen; omega) (by omega) (by rw [World.size_alloc]; omega) ?_; intro g' cap' w4 hown hgrow; have hp25 := (World.grownBy.cell_far hgrow ⟨BP, 2, none⟩ (Nat.lt_of_lt_of_le (Nat.lt_of_lt_of_le hPL hs3) (by rw [World.size_alloc]; exact Nat.le_succ _)) hneP).trans hp24; have hpf25 := (World.grownBy.frozen_far hgrow ⟨BP, 2, none⟩ (Nat.lt_of_lt_of_le (Nat.lt_of_lt_of_le hPL hs3) (by rw [World.size_alloc]; exact Nat.le_succ _)) hneP).trans hpf24)
                  refine hK _ _ ?_
                  clear hK K
                  refine wpAnyIn_ready (rs := [6]) (by kernel_rfl) (by simp) ?_
                  refine AllReadyIn.cons rfl (fun K hK => ?_) ?_
                  · go_simp
                    refine hK _ _ ?_
                    clear hK K
                    refine wpAnyIn_ready (rs := [7]) (by kernel_rfl) (by simp) ?_
                    refine AllReadyIn.cons rfl (fun K hK => ?_) ?_
                    · go_simp
                      refine hK _ _ ?_
                      clear hK K
                      refine wpAnyIn_done (by kernel_rfl) ?_ _
                      exact read_round x2 A b w W w3 w4 BP B k p c x g' cap' _ b3 ho3 hown hgrow hne ⟨⟨hp0, hp1, hp2⟩, hpf⟩ hr0 hb hj hsW hBP hPB hk hxx hg
                    exact AllReadyIn.nil
                  exact AllReadyIn.nil
                exact AllReadyIn.nil
              exact AllReadyIn.nil
            exact AllReadyIn.nil
          exact AllReadyIn.nil
        exact AllReadyIn.nil
      exact AllReadyIn.nil
    · gi_wp2
      refine wpIn_region_any (by kernel_rfl) ?_
      try (change wpAnyIn _ _ _ _ _ _ _ _ _ (World.drew _))
      refine wpAnyIn_ready (rs := [0, 2]) (by kernel_rfl) (by simp) ?_
      refine AllReadyIn.cons rfl (fun K hK => ?_) ?_
      · go_simp
        refine hK _ _ ?_
        clear hK K
        refine wpAnyIn_ready (rs := [1, 2]) (by kernel_rfl) (by simp) ?_
        refine AllReadyIn.cons rfl (fun K hK => ?_) ?_
        · go_simp
          refine hK _ _ ?_
          clear hK K
          refine wpAnyIn_ready (rs := [2]) (by kernel_rfl) (by simp) ?_
          refine AllReadyIn.cons rfl (fun K hK => ?_) ?_
          · go_simp
            refine hK _ _ ?_
            clear hK K
            refine wpAnyIn_ready (rs := [3]) (by kernel_rfl) (by simp) ?_
            refine AllReadyIn.cons rfl (fun K hK => ?_) ?_
            · go_simp
              (refine ⟨trivial, rfl, (CallsIn.inRound l (callsIn_wide.2 (number_no x hxs 8192 (by decide) (by decide) hg W.drew ht2 he2))).mono ?_⟩; rintro e w3 ⟨rfl, b3⟩; exact ⟨rfl, keeps_below ((Below.refl _ W).drew.trans b3), rfl, fun h => hg (hxx ▸ h.1 k hk), hb.drew.trans (b3.mono hb.size)⟩)
            exact AllReadyIn.nil
          exact AllReadyIn.nil
        refine AllReadyIn.cons rfl (fun K hK => ?_) ?_
        · go_simp
          refine hK _ _ ?_
          clear hK K
          refine wpAnyIn_ready (rs := [1, 3]) (by kernel_rfl) (by simp) ?_
          refine AllReadyIn.cons rfl (fun K hK => ?_) ?_
          · go_simp
            refine hK _ _ ?_
            clear hK K
            refine wpAnyIn_ready (rs := [3]) (by kernel_rfl) (by simp) ?_
            refine AllReadyIn.cons rfl (fun K hK => ?_) ?_
            · go_simp
              (refine ⟨trivial, rfl, (CallsIn.inRound l (callsIn_wide.2 (number_no x hxs 8192 (by decide) (by decide) hg W.drew ht2 he2))).mono ?_⟩; rintro e w3 ⟨rfl, b3⟩; exact ⟨rfl, keeps_below ((Below.refl _ W).drew.trans b3), rfl, fun h => hg (hxx ▸ h.1 k hk), hb.drew.trans (b3.mono hb.size)⟩)
            exact AllReadyIn.nil
          refine AllReadyIn.cons rfl (fun K hK => ?_) ?_
          · go_simp
            (refine ⟨trivial, rfl, (CallsIn.inRound l (callsIn_wide.2 (number_no x hxs 8192 (by decide) (by decide) hg W.drew ht2 he2))).mono ?_⟩; rintro e w3 ⟨rfl, b3⟩; exact ⟨rfl, keeps_below ((Below.refl _ W).drew.trans b3), rfl, fun h => hg (hxx ▸ h.1 k hk), hb.drew.trans (b3.mono hb.size)⟩)
          exact AllReadyIn.nil
        exact AllReadyIn.nil
      refine AllReadyIn.cons rfl (fun K hK => ?_) ?_
      · go_simp
        refine hK _ _ ?_
        clear hK K
        refine wpAnyIn_ready (rs := [0, 3]) (by kernel_rfl) (by simp) ?_
        refine AllReadyIn.cons rfl (fun K hK => ?_) ?_
        · go_simp
          refine hK _ _ ?_
          clear hK K
          refine wpAnyIn_ready (rs := [1, 3]) (by kernel_rfl) (by simp) ?_
          refine AllReadyIn.cons rfl (fun K hK => ?_) ?_
          · go_simp
            refine hK _ _ ?_
            clear hK K
            refine wpAnyIn_ready (rs := [3]) (by kernel_rfl) (by simp) ?_
            refine AllReadyIn.cons rfl (fun K hK => ?_) ?_
            · go_simp
              (refine ⟨trivial, rfl, (CallsIn.inRound l (callsIn_wide.2 (number_no x hxs 8192 (by decide) (by decide) hg W.drew ht2 he2))).mono ?_⟩; rintro e w3 ⟨rfl, b3⟩; exact ⟨rfl, keeps_below ((Below.refl _ W).drew.trans b3), rfl, fun h => hg (hxx ▸ h.1 k hk), hb.drew.trans (b3.mono hb.size)⟩)
            exact AllReadyIn.nil
          refine AllReadyIn.cons rfl (fun K hK => ?_) ?_
          · go_simp
            (refine ⟨trivial, rfl, (CallsIn.inRound l (callsIn_wide.2 (number_no x hxs 8192 (by decide) (by decide) hg W.drew ht2 he2))).mono ?_⟩; rintro e w3 ⟨rfl, b3⟩; exact ⟨rfl, keeps_below ((Below.refl _ W).drew.trans b3), rfl, fun h => hg (hxx ▸ h.1 k hk), hb.drew.trans (b3.mono hb.size)⟩)
          exact AllReadyIn.nil
        refine AllReadyIn.cons rfl (fun K hK => ?_) ?_
        · go_simp
          (refine ⟨trivial, rfl, (CallsIn.inRound l (callsIn_wide.2 (number_no x hxs 8192 (by decide) (by decide) hg W.drew ht2 he2))).mono ?_⟩; rintro e w3 ⟨rfl, b3⟩; exact ⟨rfl, keeps_below ((Below.refl _ W).drew.trans b3), rfl, fun h => hg (hxx ▸ h.1 k hk), hb.drew.trans (b3.mono hb.size)⟩)
        exact AllReadyIn.nil
      exact AllReadyIn.nil
  case done =>
    rintro D W hD ⟨⟨v, ⟨⟨hp0, hp1, hp2⟩, hpf⟩, ho⟩, ⟨⟨hr00, hr01, hr02⟩, hrf⟩, hb, hj, hsW⟩ hk
    have hlen : (restKL x2).length = (pcS 44 x2).length := List.length_map ..
    rw [List.take_of_length_le (by omega), ← hlen] at ho
    have hpl : (pcS 44 x2).length ≤ 1000001 := pcS_short 44 x2 hs2
    refine WpAt.ofw ?_
    go_wp2_with fail
    refine (fcheck_any A b v (restKL x2) _ (IntsNew.at ho) (by omega)).mono ?_
    rintro e W3 ⟨rfl, b3⟩
    have hp0' := cell_kept hp0 b3
    have hp1' := cell_kept hp1 b3
    have hp2' := cell_kept hp2 b3
    have hpe := restE x2 A hA hj
    obtain ⟨p, c, rfl⟩ := ownsRow_slice ho
    have hRL := World.block_lt_of_cell? W _ hr00
    have hr00' := cell_kept hr00 b3
    have hr01' := cell_kept hr01 b3
    have hr02' := cell_kept hr02 b3
    have hrf0 := free_kept (hrf 0) hRL b3
    have hrf1 := free_kept (hrf 1) hRL b3
    have hrf2 := free_kept (hrf 2) hRL b3
    have c3 : Below w.heap.size w W3 := hb.trans (b3.mono hb.size)
    by_cases h34 : (pcS 44 x2).length ≤ 34
    · rw [if_pos h34] at hpe
      rw [hpe]
      go_wp2_with fail
      refine (need_yes _).mono ?_
      rintro e w4 ⟨rfl, rfl⟩
      go_wp2_with fail
      rw [← hlen]
      exact read_end x2 A b w W3 B D p c R0 _ rfl hRB (by omega) c3 ⟨⟨hr00', hr01', hr02'⟩, fun j => free_kept (hrf j) hRL b3⟩ ((b3.block D (Array.getElem?_eq_some_iff.1 hk).1).trans hk) (own_below ho b3) (hyes ⟨hj, h34⟩)
    · rw [if_neg h34] at hpe
      rw [hpe]
      go_wp2_with fail
      refine (need_no _).mono ?_
      rintro e w4 ⟨rfl, rfl⟩
      have hk3 : W3.heap[D]? = some (.deferred (some [])) := (b3.block D (Array.getElem?_eq_some_iff.1 hk).1).trans hk
      exact Or.inr ⟨_, D, _, rfl, rfl, run_takeDeferred hk3, hno (fun h => h34 h.2) _, c3.grown (grownBy_putObj' W3 D _) c3.size fun j ej => by cases ej; omega⟩
  case panic =>
    rintro D ch W hD ⟨rfl, hn, c3⟩ hk
    exact Or.inr ⟨_, D, _, rfl, rfl, run_takeDeferred hk, hno hn _, c3.grown (grownBy_putObj' W D _) c3.size fun j ej => by cases ej; omega⟩
end Go.Proofs.YtoceeegdbnigeaaDoor
