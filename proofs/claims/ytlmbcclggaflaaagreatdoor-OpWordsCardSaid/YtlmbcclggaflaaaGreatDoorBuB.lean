/-
  Plans: what read does with the numbers of a plan, the loop over the pieces.
  Plans: what read makes of a string, with its panic.
  Slices of strings of the call's own, and strings.Join over them.
  Plans: what Text computes, of the program and of the reference.
  append of numbers onto a slice that the call owns, the numbers given as they read; slices.Clone of numbers; plans as results; a plan's copy.
  Timers: what each call does to memory.
  Plans: what Parse computes (its panic is recovered).
  Plans: what slots keep; when two plans are the same.
  Plans: what the reference's Parse computes.
  The reference of layer 39: digits, and what is ahead of the first space.
  Plain Lean: what is read back from the text of an operation, as the program and the reference do it, is that operation.
  Operations in memory; plain: strings of scripts.
  Plain Lean: the string that the program makes for a plan, of whatever numbers; which of them is read.
  Conditions: as each theorem says (bytes: at most 100,000; the library's tables and variables lie in the world).
-/
import Derived.Test.YtlmbcclggaflaaaGreatDoorBuA
import Derived.Test.YtlmbcclggaflaaaGreatDoorShelf
import Derived.Lib.Join
import Derived.Deep.RegionLaw
import Derived.Deep.AppendLies
import Derived.Maps.AppendAt
import Derived.Defers
import Derived.Recover
set_option linter.unusedVariables false
namespace Go.Proofs.YtlmbcclggaflaaaGreatDoor
open Go Go.RowKit Go.Shelf
attribute [local go_sem] Oper.semAt_some

theorem infoI : (Tryz.prog.info? 3).map (fun i => (i.zero, i.size, i.bytes)) = some (some (.int .i64 0), 1, 8) := by kernel_rfl
noncomputable def rest46 : Code := match Tryz.f86.body with
  | some (.seq _ (.seq _ (.seq _ (.seq _ r)))) => r
  | _ => .skip
def restKL (x2 : ByteArray) : List Int := (pcS 44 x2).map fun x => (numN x : Int)
def restOK (x2 : ByteArray) : Prop := (∀ k, k < (pcS 44 x2).length → numG ((pcS 44 x2).getD k ⟨#[]⟩) 8192) ∧ (pcS 44 x2).length ≤ 34
theorem restKL_snoc (x2 : ByteArray) (k : Nat) (hk : k < (pcS 44 x2).length) (x : ByteArray) (hx : (pcS 44 x2).getD k ⟨#[]⟩ = x) : (restKL x2).take k ++ [(numN x : Int)] = (restKL x2).take (k + 1) := by
  unfold restKL
  rw [List.take_add_one, List.getElem?_map, List.getElem?_eq_getElem hk]
  rw [List.getD, List.getElem?_eq_getElem hk] at hx
  have h2 : (pcS 44 x2)[k] = x := hx
  rw [h2]
  rfl
theorem restE (x2 : ByteArray) (A : Int) (hA : 0 ≤ A ∧ A ≤ 1000000) (hj : ∀ j, j < (pcS 44 x2).length → numG ((pcS 44 x2).getD j ⟨#[]⟩) 8192) : planE A (restKL x2) = if (pcS 44 x2).length ≤ 34 then 0 else 2 := by
  have h1 : 1 ≤ (pcS 44 x2).length := by
    rw [pcS_len]
    cases h : pc 44 x2.data.toList with
    | nil => exact absurd h (pc_ne _)
    | cons a l => simp
  have hl : (restKL x2).length = (pcS 44 x2).length := List.length_map ..
  have hin : inB A 1000000 = true := by unfold inB; simp; omega
  have hout : (restKL x2).any outB = false := by
    rw [List.any_eq_false]
    intro y hy
    obtain ⟨x, hx, rfl⟩ := List.mem_map.1 hy
    obtain ⟨k, hk, rfl⟩ := List.mem_iff_getElem.1 hx
    have := hj k hk
    rw [List.getD, List.getElem?_eq_getElem hk] at this
    have h2 := this.2
    unfold outB inB numN
    simp only [Option.getD_some] at h2
    simp
    omega
  unfold planE planOK
  rw [hin, hout, hl]
  by_cases h : (pcS 44 x2).length ≤ 34
  · simp [h, h1]
  · simp [h]
theorem read_round (x2 : ByteArray) (A : Int) (b : Bool) (w W w3 w4 : World) (BP B k : Nat) (p : Option Addr) (c : Nat) (x : ByteArray) (g' cap' : Nat) (tmp : Obj) (b3 : Below W.drew.heap.size W.drew w3)
    (ho3 : w3.ownsRow (B + 3) 3 1 (.slice p k c) k (((restKL x2).take k).map (Value.int .i64)))
    (hown : w4.ownsRow (B + 3) 3 1 (.slice (some ⟨g', 0, none⟩) (k + 1) cap') (k + 1) (((restKL x2).take k).map (Value.int .i64) ++ [.int .i64 (numN x : Int)]))
    (hgrow : (w3.alloc tmp).grownBy w4 (Value.slice p k c).ownBlock) (hne : ∀ j, some j = (Value.slice p k c).ownBlock → B + 3 ≤ j) (hp : PlanAt W BP A b (.slice p k c)) (hr0 : PlanAt W w.heap.size 0 false (.slice none 0 0)) (hb : Below w.heap.size w W)
    (hj : ∀ j, j < k → numG ((pcS 44 x2).getD j ⟨#[]⟩) 8192) (hsW : B + 3 ≤ W.heap.size) (hBP : w.heap.size < BP) (hPB : BP < B) (hk : k < (pcS 44 x2).length) (hxx : (pcS 44 x2).getD k ⟨#[]⟩ = x) (hg : numG x 8192) :
    KeepsOthers W (w4.setCell ⟨BP, 2, none⟩ (.slice (some ⟨g', 0, none⟩) (k + 1) cap')) ∧ KeepsBox B W (w4.setCell ⟨BP, 2, none⟩ (.slice (some ⟨g', 0, none⟩) (k + 1) cap')) ∧
    ((∃ v, PlanAt (w4.setCell ⟨BP, 2, none⟩ (.slice (some ⟨g', 0, none⟩) (k + 1) cap')) BP A b v ∧ (w4.setCell ⟨BP, 2, none⟩ (.slice (some ⟨g', 0, none⟩) (k + 1) cap')).ownsRow (B + 3) 3 1 v (k + 1) (((restKL x2).take (k + 1)).map (Value.int .i64))) ∧
      PlanAt (w4.setCell ⟨BP, 2, none⟩ (.slice (some ⟨g', 0, none⟩) (k + 1) cap')) w.heap.size 0 false (.slice none 0 0) ∧ Below w.heap.size w (w4.setCell ⟨BP, 2, none⟩ (.slice (some ⟨g', 0, none⟩) (k + 1) cap')) ∧ (∀ j, j < k + 1 → numG ((pcS 44 x2).getD j ⟨#[]⟩) 8192) ∧ B + 3 ≤ (w4.setCell ⟨BP, 2, none⟩ (.slice (some ⟨g', 0, none⟩) (k + 1) cap')).heap.size) := by
  have c3 : Below W.heap.size W w3 := (Below.refl _ W).drew.trans b3
  have c5 : Below (B + 3) W w4 := ((c3.mono hsW).alloc (Nat.le_trans hsW c3.size) tmp).grown hgrow (by rw [World.size_alloc]; have := c3.size; omega) (fun j ej => hne j ej.symm)
  have hs : B + 3 ≤ (w4.setCell ⟨BP, 2, none⟩ (.slice (some ⟨g', 0, none⟩) (k + 1) cap')).heap.size := Nat.le_trans (Nat.le_trans hsW c5.size) (grownBy_set w4 ⟨BP, 2, none⟩ _).size
  refine ⟨(appended_keeps c3 ho3 hgrow).trans (KeepsOthers.setCell _ _ _), fun j h1 h2 => (Below.heap_setCell _ _ _ j (by simp; omega)).trans (c5.block j (by omega)), ⟨_, (hp.block (c5.block BP (by omega))).set2 _, ?_⟩, hr0.block ((Below.heap_setCell _ _ _ _ (by simp; omega)).trans (c5.block _ (by omega))), (hb.trans (c5.mono (by omega))).setCell (p := ⟨BP, 2, none⟩) (by simp; omega) _, fun j hj' => ?_, hs⟩
  · rw [← restKL_snoc x2 k hk x hxx, List.map_append]
    refine hown.kept (grownBy_set w4 ⟨BP, 2, none⟩ _) (Or.inr ?_)
    intro e
    have := (hown.lt BP e).1
    omega
  · rcases Nat.lt_or_ge j k with h | h
    · exact hj j h
    · obtain rfl : j = k := by omega
      rw [hxx]; exact hg
theorem set3_heap (W : World) (B D : Nat) (h : D ≠ B) (x y z : Value) : (((W.setCell ⟨B, 0, none⟩ x).setCell ⟨B, 1, none⟩ y).setCell ⟨B, 2, none⟩ z).heap[D]? = W.heap[D]? := by
  have h1 := Below.heap_setCell W ⟨B, 0, none⟩ x D h
  have h2 := Below.heap_setCell (W.setCell ⟨B, 0, none⟩ x) ⟨B, 1, none⟩ y D h
  have h3 := Below.heap_setCell ((W.setCell ⟨B, 0, none⟩ x).setCell ⟨B, 1, none⟩ y) ⟨B, 2, none⟩ z D h
  rw [h3, h2, h1]
theorem read_end (x2 : ByteArray) (A : Int) (b : Bool) (w W3 : World) (B D : Nat) (p : Option Addr) (c : Nat) (R0 : Ending → World → Prop) (tmps : Array Value)
    (ht : tmps.getD 2 undef = .pointer (some ⟨w.heap.size, 0, none⟩)) (hRB : w.heap.size < B) (hD : B + 3 ≤ D) (c3 : Below w.heap.size w W3) (hr3 : PlanAt W3 w.heap.size 0 false (.slice none 0 0)) (hk3 : W3.heap[D]? = some (.deferred (some [])))
    (ho3 : W3.ownsRow (B + 3) 3 1 (.slice p (restKL x2).length c) (restKL x2).length ((restKL x2).map (Value.int .i64)))
    (hyes : ∀ v w', IntsNew w.heap.size w' v (restKL x2) → R0 (.returned (planV A b v)) w') :
    LeavesInM Fence.wide 0 Tryz.prog Tryz.f86 tmps (fun e w' => R0 e w' ∧ Below w.heap.size w w') [{ target := .collected D, args := #[] }] .returning (((W3.setCell ⟨w.heap.size, 0, none⟩ (.int .i64 A)).setCell ⟨w.heap.size, 1, none⟩ (.bool b)).setCell ⟨w.heap.size, 2, none⟩ (.slice p (restKL x2).length c)) := by
  have ho4 := own_set (own_set (own_set ho3 ⟨w.heap.size, 0, none⟩ (.int .i64 A) (by simp; omega)) ⟨w.heap.size, 1, none⟩ (.bool b) (by simp; omega)) ⟨w.heap.size, 2, none⟩ (.slice p (restKL x2).length c) (by simp; omega)
  have hp4 := hr3.set A b (.slice p (restKL x2).length c)
  have c4 := below_set (below_set (below_set c3 w.heap.size (Nat.le_refl _) 0 (.int .i64 A)) w.heap.size (Nat.le_refl _) 1 (.bool b)) w.heap.size (Nat.le_refl _) 2 (.slice p (restKL x2).length c)
  have hk4 := (set3_heap W3 w.heap.size D (by omega) (.int .i64 A) (.bool b) (.slice p (restKL x2).length c)).trans hk3
  generalize (((W3.setCell ⟨w.heap.size, 0, none⟩ (.int .i64 A)).setCell ⟨w.heap.size, 1, none⟩ (.bool b)).setCell ⟨w.heap.size, 2, none⟩ (.slice p (restKL x2).length c)) = W4 at *
  refine ⟨by simp, Or.inl ⟨D, _, rfl, run_takeDeferred hk4, ?_⟩⟩
  refine ⟨_, results_plan rfl tmps _ w.heap.size A b (.slice p (restKL x2).length c) (hp4.block (World.putObj_heap_other (by omega))) ht, hyes _ _ (own_base (ownsRow_putObj ho4 _ hk4 rfl) (by omega)), ?_⟩
  exact c4.grown (grownBy_putObj' W4 D _) c4.size fun j ej => by cases ej; omega
set_option maxRecDepth 100000 in
set_option maxHeartbeats 2000000 in
theorem read_rest (x2 : ByteArray) (A : Int) (b : Bool) (w wc : World) (B1 BP : Nat) (R0 : Ending → World → Prop) (v0 u1 u5 u6 u7 u8 u9 u10 u11 u12 u13 u14 u15 u16 u17 u18 u19 u20 u21 u22 u23 u24 u25 u26 u27 u28 u29 u30 u31 u32 u33 u34 u35 u36 u37 u38 u39 u40 u41 u42 u43 u44 u45 u46 u47 u48 u49 : Value) (ht : Tab w) (he : Errs w) (c1 : Below w.heap.size w wc)
    (hres : PlanAt wc w.heap.size 0 false (.slice none 0 0)) (hP : PlanAt wc BP A b (.slice none 0 0)) (hBP : w.heap.size < BP) (hc2 : wc.cell? ⟨B1, 2, none⟩ = some (.string x2)) (hs2 : x2.size ≤ 1000000) (hA : 0 ≤ A ∧ A ≤ 1000000)
    (hyes : restOK x2 → ∀ v w', IntsNew w.heap.size w' v (restKL x2) → R0 (.returned (planV A b v)) w') (hno : ¬ restOK x2 → ∀ w', R0 (.panicked [{ v := malV, recovered := false }]) w') :
    WpAt 86 Fence.wide 0 Tryz.prog rest46 (postP Fence.wide 0 Tryz.prog Tryz.f86 fun e w' => R0 e w' ∧ Below w.heap.size w w')
      { tmps := #[v0, u1, .pointer (some ⟨w.heap.size, 0, none⟩), .slice (some ⟨B1, 0, none⟩) 3 3, .pointer (some ⟨BP, 0, none⟩), u5, u6, u7, u8, u9, u10, u11, u12, u13, u14, u15, u16, u17, u18, u19, u20, u21, u22, u23, u24, u25, u26, u27, u28, u29, u30, u31, u32, u33, u34, u35, u36, u37, u38, u39, u40, u41, u42, u43, u44, u45, u46, u47, u48, u49], defers := [] } wc := by
  refine WpAt.seq trivial ?_
  refine WpAt.seq trivial (WpAt.ofw ?_)
  go_wp2_with fail
  refine (splitSeq_any x2 44 _).mono ?_
  rintro e w2 ⟨rfl, hbx, hsz, b1⟩
  have hPB : BP < wc.heap.size := World.block_lt_of_cell? wc _ hP.1.1
  have hRB : w.heap.size < wc.heap.size := World.block_lt_of_cell? wc _ hres.1.1
  have hP2 := hP.below b1
  have hr2 := hres.below b1
  have c2 := c1.trans (b1.mono c1.size)
  generalize wc.heap.size = B at *
  clear b1 c1 hP hres hc2
  go_wp2_with fail
  refine WpAt.block (F := Fence.wide) trivial ?_
  refine wpAt_rangeBox (fnr := Tryz.f86) Tryz.func86 (gf := 114) (lb := #[.pointer (some ⟨B + 1, 0, none⟩), .pointer (some ⟨B, 0, none⟩), .pointer (some ⟨B + 2, 0, none⟩)]) ?hg (enters_of Tryz.func114 (by kernel_rfl) rfl)
    (xs := pcS 44 x2) (B := B) (S0 := Boxes B 44 x2) (seq_box 44 x2 hs2 B) (by omega) (fun o1 o2 => ?boxes) ?hps
    (fun k W => (∃ v, PlanAt W BP A b v ∧ W.ownsRow (B + 3) 3 1 v k (((restKL x2).take k).map (Value.int .i64))) ∧ PlanAt W w.heap.size 0 false (.slice none 0 0) ∧ Below w.heap.size w W ∧ (∀ j, j < k → numG ((pcS 44 x2).getD j ⟨#[]⟩) 8192) ∧ B + 3 ≤ W.heap.size)
    (fun _ _ => False) (fun ch W => ch = [{ v := malV, recovered := false }] ∧ ¬ restOK x2 ∧ Below w.heap.size w W) ?stands (fun _ _ _ _ h _ _ => h) ⟨⟨_, hP2, World.ownsRow_nil _ _ _ _⟩, hr2, c2, fun j hj => absurd hj (Nat.not_lt_zero _), by omega⟩
    (fun x => { tmps := #[v0, u1, .pointer (some ⟨w.heap.size, 0, none⟩), .slice (some ⟨B1, 0, none⟩) 3 3, .pointer (some ⟨BP, 0, none⟩), .string x, u6, u7, u8, u9, u10, u11, u12, u13, u14, u15, u16, u17, u18, u19, u20, u21, u22, u23, u24, u25, u26, u27, u28, u29, u30, u31, u32, .slice (some ⟨B1, 0, none⟩) 3 3, .pointer (some ⟨B1, 2, none⟩), .string x2, .func (.func 114) #[] #[.pointer (some ⟨B + 1, 0, none⟩), .pointer (some ⟨B, 0, none⟩), .pointer (some ⟨B + 2, 0, none⟩)], .string x, u38, u39, u40, u41, u42, u43, u44, u45, u46, u47, u48, u49], defers := [] }) ?assign ?body ?done (fun _ _ _ _ h _ => h.elim) ?panic
  case hg => rfl
  case hps => rfl
  case boxes =>
    obtain ⟨q1, q2, q3⟩ := hbx
    refine ⟨?_, ?_, ?_⟩
    · rw [Below.heap_alloc _ _ _ (by rw [World.size_alloc]; omega), Below.heap_alloc _ _ _ (by omega)]; exact q1
    · rw [Below.heap_alloc _ _ _ (by rw [World.size_alloc]; omega), Below.heap_alloc _ _ _ (by omega)]; exact q2
    · rw [Below.heap_alloc _ _ _ (by rw [World.size_alloc]; omega), Below.heap_alloc _ _ _ (by omega)]; exact q3
  case stands =>
    rintro k W W' row ⟨⟨v, hp, ho⟩, hr0, hb, hj, hsW⟩ hg hr
    refine ⟨⟨v, hp.block (stands_cell hp.1.1 (by simp; omega) hg hr), stands_own ho (by omega) hg hr⟩, hr0.block (stands_cell hr0.1.1 (by simp; omega) hg hr), hb.grown hg hb.size fun j ej => ?_, hj, Nat.le_trans hsW hg.size⟩
    rcases hr _ ej with rfl | ⟨hD, _⟩
    · omega
    · omega
  case assign =>
    intro l x W K hK
    gi_wp2
    exact hK
  case body =>
    rintro l k W ⟨⟨v, ⟨⟨hp0, hp1, hp2⟩, hpf⟩, ho⟩, hr0, hb, hj, hsW⟩ hk
    obtain ⟨i0, hi0, hz0, hz1, hz2⟩ := info_parts infoI
    have hpl : (pcS 44 x2).length ≤ 1000001 := pcS_short 44 x2 hs2
    obtain ⟨p, c, rfl⟩ := ownsRow_slice ho
    have hxs : ((pcS 44 x2).getD k ⟨#[]⟩).size ≤ 1000000 := Nat.le_trans (pcS_size 44 x2 k) hs2
    obtain ⟨x, hxx⟩ : ∃ x, (pcS 44 x2).getD k ⟨#[]⟩ = x := ⟨_, rfl⟩
    rw [hxx] at hxs
    have hpf2 := hpf 2
    rw [hxx]
    have HR := Lib.hid hr0
    have HO := Lib.hid ho
    have HB := Lib.hid hb
    have hp2d : W.drew.cell? ⟨BP, 2, none⟩ = some (.slice p k c) := hp2
    have hpf2d : W.drew.frozen? ⟨BP, 2, none⟩ = false := hpf2
    have ht2 := ht.below hb.drew
    have he2 := he.below hb.drew
    have hne : ∀ j, some j = (Value.slice p k c).ownBlock → B + 3 ≤ j := fun j e => (ho.lt j e.symm).1
    have hneP : some BP ≠ (Value.slice p k c).ownBlock := fun e => by have := hne _ e; omega
    have hPL := World.block_lt_of_cell? W _ hp0
    by_cases hg : numG x 8192
    · gi_wp2
      refine wpIn_region_any (by kernel_rfl) ?_
      try (change wpAnyIn _ _ _ _ _ _ _ _ _ (World.drew _))
      refine wpAnyIn_ready (rs := [0, 2]) (by kernel_rfl) (by simp) ?_
      refine AllReadyIn.cons rfl (fun K hK => ?_) ?_
      · go_simp
        refine hK _ _ ?_
        clear hK K
        refine wpAnyIn_ready (rs := [1, 2]) (by kernel_rfl) (by simp) ?_
        refine AllReadyIn.cons rfl (fun K hK => ?_) ?_
        · go_simp
          refine hK _ _ ?_
          clear hK K
          refine wpAnyIn_ready (rs := [2]) (by kernel_rfl) (by simp) ?_
          refine AllReadyIn.cons rfl (fun K hK => ?_) ?_
          · go_simp
            refine hK _ _ ?_
            clear hK K
            refine wpAnyIn_ready (rs := [3]) (by kernel_rfl) (by simp) ?_
            refine AllReadyIn.cons rfl (fun K hK => ?_) ?_
            · go_simp
              (refine ⟨trivial, rfl, (CallsIn.inRound l (callsIn_wide.2 (number_yes x hxs 8192 (by decide) (by decide) hg W.drew ht2 he2))).mono ?_⟩; rintro e w3 ⟨rfl, b3⟩; have hs3 : W.heap.size ≤ w3.heap.size := b3.size; have hp23 := cell_kept hp2d b3; have hp24 : (w3.alloc (.cells #[.int .i64 (numN x : Int)] 3)).cell? ⟨BP, 2, none⟩ = some (.slice p k c) := cell_old hp23; have hpf23 := free_kept hpf2d hPL b3; have hpf24 : (w3.alloc (.cells #[.int .i64 (numN x : Int)] 3)).frozen? ⟨BP, 2, none⟩ = false := free_kept hpf23 (Nat.lt_of_lt_of_le hPL hs3) ((Below.refl _ _).alloc (Nat.le_refl _) _); have ho3 := own_below (w := W.drew) ho b3; dsimp only)
              refine hK _ _ ?_
              clear hK K
              refine wpAnyIn_ready (rs := [4]) (by kernel_rfl) (by simp) ?_
              refine AllReadyIn.cons rfl (fun K hK => ?_) ?_
              · go_simp
                refine hK _ _ ?_
                clear hK K
                refine wpAnyIn_ready (rs := [5]) (by kernel_rfl) (by simp) ?_
                refine AllReadyIn.cons rfl (fun K hK => ?_) ?_
                · (refine stepIn_append rfl (.tmp 39) (.tmp 42) 36 rfl (B + 3) 3 i0 (.int .i64 0) 1 8 Tryz.underlying36 hi0 hz0 hz1 hz2 rfl (by decide) (.slice p k c) k (((restKL x2).take k).map (Value.int .i64)) rfl (ho3.alloc _) ⟨w3.heap.size, 0, none⟩ 1 1 [.int .i64 (numN x : Int)] rfl rfl (cell_one_new _ _ _) (fun q hq => by simp at hq; subst hq; rfl) (by decide) (by unfold maxLen; omega) (by omega) (by rw [World.size_alloc]; omega) ?_; intro g' cap' w4 hown hgrow; have hp25 := (World.grownBy.cell_far hgrow ⟨BP, 2, none⟩ (Nat.lt_of_lt_of_le (Nat.lt_of_lt_of_le hPL hs3) (by rw [World.size_alloc]; exact Nat.le_succ _)) hneP).trans hp24; have hpf25 := (World.grownBy.frozen_far hgrow ⟨BP, 2, none⟩ (Nat.lt_of_lt_of_le (Nat.lt_of_lt_of_le hPL hs3) (by rw [World.size_alloc]; exact Nat.le_succ _)) hneP).trans hpf24)
                  refine hK _ _ ?_
                  clear hK K
                  refine wpAnyIn_ready (rs := [6]) (by kernel_rfl) (by simp) ?_
                  refine AllReadyIn.cons rfl (fun K hK => ?_) ?_
                  · go_simp
                    refine hK _ _ ?_
                    clear hK K
                    refine wpAnyIn_ready (rs := [7]) (by kernel_rfl) (by simp) ?_
                    refine AllReadyIn.cons rfl (fun K hK => ?_) ?_
                    · go_simp
                      refine hK _ _ ?_
                      clear hK K
                      refine wpAnyIn_done (by kernel_rfl) ?_ _
                      exact read_round x2 A b w W w3 w4 BP B k p c x g' cap' _ b3 ho3 hown hgrow hne ⟨⟨hp0, hp1, hp2⟩, hpf⟩ hr0 hb hj hsW hBP hPB hk hxx hg
                    exact AllReadyIn.nil
                  exact AllReadyIn.nil
                exact AllReadyIn.nil
              exact AllReadyIn.nil
            exact AllReadyIn.nil
          exact AllReadyIn.nil
        refine AllReadyIn.cons rfl (fun K hK => ?_) ?_
        · go_simp
          refine hK _ _ ?_
          clear hK K
          refine wpAnyIn_ready (rs := [1, 3]) (by kernel_rfl) (by simp) ?_
          refine AllReadyIn.cons rfl (fun K hK => ?_) ?_
          · go_simp
            refine hK _ _ ?_
            clear hK K
            refine wpAnyIn_ready (rs := [3]) (by kernel_rfl) (by simp) ?_
            refine AllReadyIn.cons rfl (fun K hK => ?_) ?_
            · go_simp
              (refine ⟨trivial, rfl, (CallsIn.inRound l (callsIn_wide.2 (number_yes x hxs 8192 (by decide) (by decide) hg W.drew ht2 he2))).mono ?_⟩; rintro e w3 ⟨rfl, b3⟩; have hs3 : W.heap.size ≤ w3.heap.size := b3.size; have hp23 := cell_kept hp2d b3; have hp24 : (w3.alloc (.cells #[.int .i64 (numN x : Int)] 3)).cell? ⟨BP, 2, none⟩ = some (.slice p k c) := cell_old hp23; have hpf23 := free_kept hpf2d hPL b3; have hpf24 : (w3.alloc (.cells #[.int .i64 (numN x : Int)] 3)).frozen? ⟨BP, 2, none⟩ = false := free_kept hpf23 (Nat.lt_of_lt_of_le hPL hs3) ((Below.refl _ _).alloc (Nat.le_refl _) _); have ho3 := own_below (w := W.drew) ho b3; dsimp only)
              refine hK _ _ ?_
              clear hK K
              refine wpAnyIn_ready (rs := [4]) (by kernel_rfl) (by simp) ?_
              refine AllReadyIn.cons rfl (fun K hK => ?_) ?_
              · go_simp
                refine hK _ _ ?_
                clear hK K
                refine wpAnyIn_ready (rs := [5]) (by kernel_rfl) (by simp) ?_
                refine AllReadyIn.cons rfl (fun K hK => ?_) ?_
                · (refine stepIn_append rfl (.tmp 39) (.tmp 42) 36 rfl (B + 3) 3 i0 (.int .i64 0) 1 8 Tryz.underlying36 hi0 hz0 hz1 hz2 rfl (by decide) (.slice p k c) k (((restKL x2).take k).map (Value.int .i64)) rfl (ho3.alloc _) ⟨w3.heap.size, 0, none⟩ 1 1 [.int .i64 (numN x : Int)] rfl rfl (cell_one_new _ _ _) (fun q hq => by simp at hq; subst hq; rfl) (by decide) (by unfold maxLen; omega) (by omega) (by rw [World.size_alloc]; omega) ?_; intro g' cap' w4 hown hgrow; have hp25 := (World.grownBy.cell_far hgrow ⟨BP, 2, none⟩ (Nat.lt_of_lt_of_le (Nat.lt_of_lt_of_le hPL hs3) (by rw [World.size_alloc]; exact Nat.le_succ _)) hneP).trans hp24; have hpf25 := (World.grownBy.frozen_far hgrow ⟨BP, 2, none⟩ (Nat.lt_of_lt_of_le (Nat.lt_of_lt_of_le hPL hs3) (by rw [World.size_alloc]; exact Nat.le_succ _)) hneP).trans hpf24)
                  refine hK _ _ ?_
                  clear hK K
                  refine wpAnyIn_ready (rs := [6]) (by kernel_rfl) (by simp) ?_
                  refine AllReadyIn.cons rfl (fun K hK => ?_) ?_
                  · go_simp
                    refine hK _ _ ?_
                    clear hK K
                    refine wpAnyIn_ready (rs := [7]) (by kernel_rfl) (by simp) ?_
                    refine AllReadyIn.cons rfl (fun K hK => ?_) ?_
                    · go_simp
                      refine hK _ _ ?_
                      clear hK K
                      refine wpAnyIn_done (by kernel_rfl) ?_ _
                      exact read_round x2 A b w W w3 w4 BP B k p c x g' cap' _ b3 ho3 hown hgrow hne ⟨⟨hp0, hp1, hp2⟩, hpf⟩ hr0 hb hj hsW hBP hPB hk hxx hg
                    exact AllReadyIn.nil
                  exact AllReadyIn.nil
                exact AllReadyIn.nil
              exact AllReadyIn.nil
            exact AllReadyIn.nil
          refine AllReadyIn.cons rfl (fun K hK => ?_) ?_
          · go_simp
            (refine ⟨trivial, rfl, (CallsIn.inRound l (callsIn_wide.2 (number_yes x hxs 8192 (by decide) (by decide) hg W.drew ht2 he2))).mono ?_⟩; rintro e w3 ⟨rfl, b3⟩; have hs3 : W.heap.size ≤ w3.heap.size := b3.size; have hp23 := cell_kept hp2d b3; have hp24 : (w3.alloc (.cells #[.int .i64 (numN x : Int)] 3)).cell? ⟨BP, 2, none⟩ = some (.slice p k c) := cell_old hp23; have hpf23 := free_kept hpf2d hPL b3; have hpf24 : (w3.alloc (.cells #[.int .i64 (numN x : Int)] 3)).frozen? ⟨BP, 2, none⟩ = false := free_kept hpf23 (Nat.lt_of_lt_of_le hPL hs3) ((Below.refl _ _).alloc (Nat.le_refl _) _); have ho3 := own_below (w := W.drew) ho b3; dsimp only)
            refine hK _ _ ?_
            clear hK K
            refine wpAnyIn_ready (rs := [1, 4]) (by kernel_rfl) (by simp) ?_
            refine AllReadyIn.cons rfl (fun K hK => ?_) ?_
            · go_simp
              refine hK _ _ ?_
              clear hK K
              refine wpAnyIn_ready (rs := [4]) (by kernel_rfl) (by simp) ?_
              refine AllReadyIn.cons rfl (fun K hK => ?_) ?_
              · go_simp
                refine hK _ _ ?_
                clear hK K
                refine wpAnyIn_ready (rs := [5]) (by kernel_rfl) (by simp) ?_
                refine AllReadyIn.cons rfl (fun K hK => ?_) ?_
                · (refine stepIn_append rfl (.tmp 39) (.tmp 42) 36 rfl (B + 3) 3 i0 (.int .i64 0) 1 8 Tryz.underlying36 hi0 hz0 hz1 hz2 rfl (by decide) (.slice p k c) k (((restKL x2).take k).map (Value.int .i64)) rfl (ho3.alloc _) ⟨w3.heap.size, 0, none⟩ 1 1 [.int .i64 (numN x : Int)] rfl rfl (cell_one_new _ _ _) (fun q hq => by simp at hq; subst hq; rfl) (by decide) (by unfold maxLen; omega) (by omega) (by rw [World.size_alloc]; omega) ?_; intro g' cap' w4 hown hgrow; have hp25 := (World.grownBy.cell_far hgrow ⟨BP, 2, none⟩ (Nat.lt_of_lt_of_le (Nat.lt_of_lt_of_le hPL hs3) (by rw [World.size_alloc]; exact Nat.le_succ _)) hneP).trans hp24; have hpf25 := (World.grownBy.frozen_far hgrow ⟨BP, 2, none⟩ (Nat.lt_of_lt_of_le (Nat.lt_of_lt_of_le hPL hs3) (by rw [World.size_alloc]; exact Nat.le_succ _)) hneP).trans hpf24)
                  refine hK _ _ ?_
                  clear hK K
                  refine wpAnyIn_ready (rs := [6]) (by kernel_rfl) (by simp) ?_
                  refine AllReadyIn.cons rfl (fun K hK => ?_) ?_
                  · go_simp
                    refine hK _ _ ?_
                    clear hK K
                    refine wpAnyIn_ready (rs := [7]) (by kernel_rfl) (by simp) ?_
                    refine AllReadyIn.cons rfl (fun K hK => ?_) ?_
                    · go_simp
                      refine hK _ _ ?_
                      clear hK K
                      refine wpAnyIn_done (by kernel_rfl) ?_ _
                      exact read_round x2 A b w W w3 w4 BP B k p c x g' cap' _ b3 ho3 hown hgrow hne ⟨⟨hp0, hp1, hp2⟩, hpf⟩ hr0 hb hj hsW hBP hPB hk hxx hg
                    exact AllReadyIn.nil
                  exact AllReadyIn.nil
                exact AllReadyIn.nil
              exact AllReadyIn.nil
            refine AllReadyIn.cons rfl (fun K hK => ?_) ?_
            · go_simp
              refine hK _ _ ?_
              clear hK K
              refine wpAnyIn_ready (rs := [1]) (by kernel_rfl) (by simp) ?_
              refine AllReadyIn.cons rfl (fun K hK => ?_) ?_
              · go_simp
                refine hK _ _ ?_
                clear hK K
                refine wpAnyIn_ready (rs := [5]) (by kernel_rfl) (by simp) ?_
                refine AllReadyIn.cons rfl (fun K hK => ?_) ?_
                · (refine stepIn_append rfl (.tmp 39) (.tmp 42) 36 rfl (B + 3) 3 i0 (.int .i64 0) 1 8 Tryz.underlying36 hi0 hz0 hz1 hz2 rfl (by decide) (.slice p k c) k (((restKL x2).take k).map (Value.int .i64)) rfl (ho3.alloc _) ⟨w3.heap.size, 0, none⟩ 1 1 [.int .i64 (numN x : Int)] rfl rfl (cell_one_new _ _ _) (fun q hq => by simp at hq; subst hq; rfl) (by decide) (by unfold maxLen; omega) (by omega) (by rw [World.size_alloc]; omega) ?_; intro g' cap' w4 hown hgrow; have hp25 := (World.grownBy.cell_far hgrow ⟨BP, 2, none⟩ (Nat.lt_of_lt_of_le (Nat.lt_of_lt_of_le hPL hs3) (by rw [World.size_alloc]; exact Nat.le_succ _)) hneP).trans hp24; have hpf25 := (World.grownBy.frozen_far hgrow ⟨BP, 2, none⟩ (Nat.lt_of_lt_of_le (Nat.lt_of_lt_of_le hPL hs3) (by rw [World.size_alloc]; exact Nat.le_succ _)) hneP).trans hpf24)
                  refine hK _ _ ?_
                  clear hK K
                  refine wpAnyIn_ready (rs := [6]) (by kernel_rfl) (by simp) ?_
                  refine AllReadyIn.cons rfl (fun K hK => ?_) ?_
                  · go_simp
                    refine hK _ _ ?_
                    clear hK K
                    refine wpAnyIn_ready (rs := [7]) (by kernel_rfl) (by simp) ?_
                    refine AllReadyIn.cons rfl (fun K hK => ?_) ?_
                    · go_simp
                      refine hK _ _ ?_
                      clear hK K
                      refine wpAnyIn_done (by kernel_rfl) ?_ _
                      exact read_round x2 A b w W w3 w4 BP B k p c x g' cap' _ b3 ho3 hown hgrow hne ⟨⟨hp0, hp1, hp2⟩, hpf⟩ hr0 hb hj hsW hBP hPB hk hxx hg
                    exact AllReadyIn.nil
                  exact AllReadyIn.nil
                exact AllReadyIn.nil
              exact AllReadyIn.nil
            exact AllReadyIn.nil
          exact AllReadyIn.nil
        exact AllReadyIn.nil
      refine AllReadyIn.cons rfl (fun K hK => ?_) ?_
      · go_simp
        refine hK _ _ ?_
        clear hK K
        refine wpAnyIn_ready (rs := [0, 3]) (by kernel_rfl) (by simp) ?_
        refine AllReadyIn.cons rfl (fun K hK => ?_) ?_
        · go_simp
          refine hK _ _ ?_
          clear hK K
          refine wpAnyIn_ready (rs := [1, 3]) (by kernel_rfl) (by simp) ?_
          refine AllReadyIn.cons rfl (fun K hK => ?_) ?_
          · go_simp
            refine hK _ _ ?_
            clear hK K
            refine wpAnyIn_ready (rs := [3]) (by kernel_rfl) (by simp) ?_
            refine AllReadyIn.cons rfl (fun K hK => ?_) ?_
            · go_simp
              (refine ⟨trivial, rfl, (CallsIn.inRound l (callsIn_wide.2 (number_yes x hxs 8192 (by decide) (by decide) hg W.drew ht2 he2))).mono ?_⟩; rintro e w3 ⟨rfl, b3⟩; have hs3 : W.heap.size ≤ w3.heap.size := b3.size; have hp23 := cell_kept hp2d b3; have hp24 : (w3.alloc (.cells #[.int .i64 (numN x : Int)] 3)).cell? ⟨BP, 2, none⟩ = some (.slice p k c) := cell_old hp23; have hpf23 := free_kept hpf2d hPL b3; have hpf24 : (w3.alloc (.cells #[.int .i64 (numN x : Int)] 3)).frozen? ⟨BP, 2, none⟩ = false := free_kept hpf23 (Nat.lt_of_lt_of_le hPL hs3) ((Below.refl _ _).alloc (Nat.le_refl _) _); have ho3 := own_below (w := W.drew) ho b3; dsimp only)
              refine hK _ _ ?_
              clear hK K
              refine wpAnyIn_ready (rs := [4]) (by kernel_rfl) (by simp) ?_
              refine AllReadyIn.cons rfl (fun K hK => ?_) ?_
              · go_simp
                refine hK _ _ ?_
                clear hK K
                refine wpAnyIn_ready (rs := [5]) (by kernel_rfl) (by simp) ?_
                refine AllReadyIn.cons rfl (fun K hK => ?_) ?_
                · (refine stepIn_append rfl (.tmp 39) (.tmp 42) 36 rfl (B + 3) 3 i0 (.int .i64 0) 1 8 Tryz.underlying36 hi0 hz0 hz1 hz2 rfl (by decide) (.slice p k c) k (((restKL x2).take k).map (Value.int .i64)) rfl (ho3.alloc _) ⟨w3.heap.size, 0, none⟩ 1 1 [.int .i64 (numN x : Int)] rfl rfl (cell_one_new _ _ _) (fun q hq => by simp at hq; subst hq; rfl) (by decide) (by unfold maxLen; omega) (by omega) (by rw [World.size_alloc]; omega) ?_; intro g' cap' w4 hown hgrow; have hp25 := (World.grownBy.cell_far hgrow ⟨BP, 2, none⟩ (Nat.lt_of_lt_of_le (Nat.lt_of_lt_of_le hPL hs3) (by rw [World.size_alloc]; exact Nat.le_succ _)) hneP).trans hp24; have hpf25 := (World.grownBy.frozen_far hgrow ⟨BP, 2, none⟩ (Nat.lt_of_lt_of_le (Nat.lt_of_lt_of_le hPL hs3) (by rw [World.size_alloc]; exact Nat.le_succ _)) hneP).trans hpf24)
                  refine hK _ _ ?_
                  clear hK K
                  refine wpAnyIn_ready (rs := [6]) (by kernel_rfl) (by simp) ?_
                  refine AllReadyIn.cons rfl (fun K hK => ?_) ?_
                  · go_simp
                    refine hK _ _ ?_
                    clear hK K
                    refine wpAnyIn_ready (rs := [7]) (by kernel_rfl) (by simp) ?_
                    refine AllReadyIn.cons rfl (fun K hK => ?_) ?_
                    · go_simp
                      refine hK _ _ ?_
                      clear hK K
                      refine wpAnyIn_done (by kernel_rfl) ?_ _
                      exact read_round x2 A b w W w3 w4 BP B k p c x g' cap' _ b3 ho3 hown hgrow hne ⟨⟨hp0, hp1, hp2⟩, hpf⟩ hr0 hb hj hsW hBP hPB hk hxx hg
                    exact AllReadyIn.nil
                  exact AllReadyIn.nil
                exact AllReadyIn.nil
              exact AllReadyIn.nil
            exact AllReadyIn.nil
          refine AllReadyIn.cons rfl (fun K hK => ?_) ?_
          · go_simp
            (refine ⟨trivial, rfl, (CallsIn.inRound l (callsIn_wide.2 (number_yes x hxs 8192 (by decide) (by decide) hg W.drew ht2 he2))).mono ?_⟩; rintro e w3 ⟨rfl, b3⟩; have hs3 : W.heap.size ≤ w3.heap.size := b3.size; have hp23 := cell_kept hp2d b3; have hp24 : (w3.alloc (.cells #[.int .i64 (numN x : Int)] 3)).cell? ⟨BP, 2, none⟩ = some (.slice p k c) := cell_old hp23; have hpf23 := free_kept hpf2d hPL b3; have hpf24 : (w3.alloc (.cells #[.int .i64 (numN x : Int)] 3)).frozen? ⟨BP, 2, none⟩ = false := free_kept hpf23 (Nat.lt_of_lt_of_le hPL hs3) ((Below.refl _ _).alloc (Nat.le_refl _) _); have ho3 := own_below (w := W.drew) ho b3; dsimp only)
            refine hK _ _ ?_
            clear hK K
            refine wpAnyIn_ready (rs := [1, 4]) (by kernel_rfl) (by simp) ?_
            refine AllReadyIn.cons rfl (fun K hK => ?_) ?_
            · go_simp
              refine hK _ _ ?_
              clear hK K
              refine wpAnyIn_ready (rs := [4]) (by kernel_rfl) (by simp) ?_
              refine AllReadyIn.cons rfl (fun K hK => ?_) ?_
              · go_simp
                refine hK _ _ ?_
                clear hK K
                refine wpAnyIn_ready (rs := [5]) (by kernel_rfl) (by simp) ?_
                refine AllReadyIn.cons rfl (fun K hK => ?_) ?_
                · (refine stepIn_append rfl (.tmp 39) (.tmp 42) 36 rfl (B + 3) 3 i0 (.int .i64 0) 1 8 Tryz.underlying36 hi0 hz0 hz1 hz2 rfl (by decide) (.slice p k c) k (((restKL x2).take k).map (Value.int .i64)) rfl (ho3.alloc _) ⟨w3.heap.size, 0, none⟩ 1 1 [.int .i64 (numN x : Int)] rfl rfl (cell_one_new _ _ _) (fun q hq => by simp at hq; subst hq; rfl) (by decide) (by unfold maxLen; omega) (by omega) (by rw [World.size_alloc]; omega) ?_; intro g' cap' w4 hown hgrow; have hp25 := (World.grownBy.cell_far hgrow ⟨BP, 2, none⟩ (Nat.lt_of_lt_of_le (Nat.lt_of_lt_of_le hPL hs3) (by rw [World.size_alloc]; exact Nat.le_succ _)) hneP).trans hp24; have hpf25 := (World.grownBy.frozen_far hgrow ⟨BP, 2, none⟩ (Nat.lt_of_lt_of_le (Nat.lt_of_lt_of_le hPL hs3) (by rw [World.size_alloc]; exact Nat.le_succ _)) hneP).trans hpf24)
                  refine hK _ _ ?_
                  clear hK K
                  refine wpAnyIn_ready (rs := [6]) (by kernel_rfl) (by simp) ?_
                  refine AllReadyIn.cons rfl (fun K hK => ?_) ?_
                  · go_simp
                    refine hK _ _ ?_
                    clear hK K
                    refine wpAnyIn_ready (rs := [7]) (by kernel_rfl) (by simp) ?_
                    refine AllReadyIn.cons rfl (fun K hK => ?_) ?_
                    · go_simp
                      refine hK _ _ ?_
                      clear hK K
                      refine wpAnyIn_done (by kernel_rfl) ?_ _
                      exact read_round x2 A b w W w3 w4 BP B k p c x g' cap' _ b3 ho3 hown hgrow hne ⟨⟨hp0, hp1, hp2⟩, hpf⟩ hr0 hb hj hsW hBP hPB hk hxx hg
                    exact AllReadyIn.nil
                  exact AllReadyIn.nil
                exact AllReadyIn.nil
              exact AllReadyIn.nil
            refine AllReadyIn.cons rfl (fun K hK => ?_) ?_
            · go_simp
              refine hK _ _ ?_
              clear hK K
              refine wpAnyIn_ready (rs := [1]) (by kernel_rfl) (by simp) ?_
              refine AllReadyIn.cons rfl (fun K hK => ?_) ?_
              · go_simp
                refine hK _ _ ?_
                clear hK K
                refine wpAnyIn_ready (rs := [5]) (by kernel_rfl) (by simp) ?_
                refine AllReadyIn.cons rfl (fun K hK => ?_) ?_
                · (refine stepIn_append rfl (.tmp 39) (.tmp 42) 36 rfl (B + 3) 3 i0 (.int .i64 0) 1 8 Tryz.underlying36 hi0 hz0 hz1 hz2 rfl (by decide) (.slice p k c) k (((restKL x2).take k).map (Value.int .i64)) rfl (ho3.alloc _) ⟨w3.heap.size, 0, none⟩ 1 1 [.int .i64 (numN x : Int)] rfl rfl (cell_one_new _ _ _) (fun q hq => by simp at hq; subst hq; rfl) (by decide) (by unfold maxLen; omega) (by omega) (by rw [World.size_alloc]; omega) ?_; intro g' cap' w4 hown hgrow; have hp25 := (World.grownBy.cell_far hgrow ⟨BP, 2, none⟩ (Nat.lt_of_lt_of_le (Nat.lt_of_lt_of_le hPL hs3) (by rw [World.size_alloc]; exact Nat.le_succ _)) hneP).trans hp24; have hpf25 := (World.grownBy.frozen_far hgrow ⟨BP, 2, none⟩ (Nat.lt_of_lt_of_le (Nat.lt_of_lt_of_le hPL hs3) (by rw [World.size_alloc]; exact Nat.le_succ _)) hneP).trans hpf24)
                  refine hK _ _ ?_
                  clear hK K
                  refine wpAnyIn_ready (rs := [6]) (by kernel_rfl) (by simp) ?_
                  refine AllReadyIn.cons rfl (fun K hK => ?_) ?_
                  · go_simp
                    refine hK _ _ ?_
                    clear hK K
                    refine wpAnyIn_ready (rs := [7]) (by kernel_rfl) (by simp) ?_
                    refine AllReadyIn.cons rfl (fun K hK => ?_) ?_
                    · go_simp
                      refine hK _ _ ?_
                      clear hK K
                      refine wpAnyIn_done (by kernel_rfl) ?_ _
                      exact read_round x2 A b w W w3 w4 BP B k p c x g' cap' _ b3 ho3 hown hgrow hne ⟨⟨hp0, hp1, hp2⟩, hpf⟩ hr0 hb hj hsW hBP hPB hk hxx hg
                    exact AllReadyIn.nil
                  exact AllReadyIn.nil
                exact AllReadyIn.nil
              exact AllReadyIn.nil
            exact AllReadyIn.nil
          exact AllReadyIn.nil
        refine AllReadyIn.cons rfl (fun K hK => ?_) ?_
        · go_simp
          (refine ⟨trivial, rfl, (CallsIn.inRound l (callsIn_wide.2 (number_yes x hxs 8192 (by decide) (by decide) hg W.drew ht2 he2))).mono ?_⟩; rintro e w3 ⟨rfl, b3⟩; have hs3 : W.heap.size ≤ w3.heap.size := b3.size; have hp23 := cell_kept hp2d b3; have hp24 : (w3.alloc (.cells #[.int .i64 (numN x : Int)] 3)).cell? ⟨BP, 2, none⟩ = some (.slice p k c) := cell_old hp23; have hpf23 := free_kept hpf2d hPL b3; have hpf24 : (w3.alloc (.cells #[.int .i64 (numN x : Int)] 3)).frozen? ⟨BP, 2, none⟩ = false := free_kept hpf23 (Nat.lt_of_lt_of_le hPL hs3) ((Below.refl _ _).alloc (Nat.le_refl _) _); have ho3 := own_below (w := W.drew) ho b3; dsimp only)
          refine hK _ _ ?_
          clear hK K
          refine wpAnyIn_ready (rs := [0, 4]) (by kernel_rfl) (by simp) ?_
          refine AllReadyIn.cons rfl (fun K hK => ?_) ?_
          · go_simp
            refine hK _ _ ?_
            clear hK K
            refine wpAnyIn_ready (rs := [1, 4]) (by kernel_rfl) (by simp) ?_
            refine AllReadyIn.cons rfl (fun K hK => ?_) ?_
            · go_simp
              refine hK _ _ ?_
              clear hK K
              refine wpAnyIn_ready (rs := [4]) (by kernel_rfl) (by simp) ?_
              refine AllReadyIn.cons rfl (fun K hK => ?_) ?_
              · go_simp
                refine hK _ _ ?_
                clear hK K
                refine wpAnyIn_ready (rs := [5]) (by kernel_rfl) (by simp) ?_
                refine AllReadyIn.cons rfl (fun K hK => ?_) ?_
                · (refine stepIn_append rfl (.tmp 39) (.tmp 42) 36 rfl (B + 3) 3 i0 (.int .i64 0) 1 8 Tryz.underlying36 hi0 hz0 hz1 hz2 rfl (by decide) (.slice p k c) k (((restKL x2).take k).map (Value.int .i64)) rfl (ho3.alloc _) ⟨w3.heap.size, 0, none⟩ 1 1 [.int .i64 (numN x : Int)] rfl rfl (cell_one_new _ _ _) (fun q hq => by simp at hq; subst hq; rfl) (by decide) (by unfold maxLen; omega) (by omega) (by rw [World.size_alloc]; omega) ?_; intro g' cap' w4 hown hgrow; have hp25 := (World.grownBy.cell_far hgrow ⟨BP, 2, none⟩ (Nat.lt_of_lt_of_le (Nat.lt_of_lt_of_le hPL hs3) (by rw [World.size_alloc]; exact Nat.le_succ _)) hneP).trans hp24; have hpf25 := (World.grownBy.frozen_far hgrow ⟨BP, 2, none⟩ (Nat.lt_of_lt_of_le (Nat.lt_of_lt_of_le hPL hs3) (by rw [World.size_alloc]; exact Nat.le_succ _)) hneP).trans hpf24)
                  refine hK _ _ ?_
                  clear hK K
                  refine wpAnyIn_ready (rs := [6]) (by kernel_rfl) (by simp) ?_
                  refine AllReadyIn.cons rfl (fun K hK => ?_) ?_
                  · go_simp
                    refine hK _ _ ?_
                    clear hK K
                    refine wpAnyIn_ready (rs := [7]) (by kernel_rfl) (by simp) ?_
                    refine AllReadyIn.cons rfl (fun K hK => ?_) ?_
                    · go_simp
                      refine hK _ _ ?_
                      clear hK K
                      refine wpAnyIn_done (by kernel_rfl) ?_ _
                      exact read_round x2 A b w W w3 w4 BP B k p c x g' cap' _ b3 ho3 hown hgrow hne ⟨⟨hp0, hp1, hp2⟩, hpf⟩ hr0 hb hj hsW hBP hPB hk hxx hg
                    exact AllReadyIn.nil
                  exact AllReadyIn.nil
                exact AllReadyIn.nil
              exact AllReadyIn.nil
            refine AllReadyIn.cons rfl (fun K hK => ?_) ?_
            · go_simp
              refine hK _ _ ?_
              clear hK K
              refine wpAnyIn_ready (rs := [1]) (by kernel_rfl) (by simp) ?_
              refine AllReadyIn.cons rfl (fun K hK => ?_) ?_
              · go_simp
                refine hK _ _ ?_
                clear hK K
                refine wpAnyIn_ready (rs := [5]) (by kernel_rfl) (by simp) ?_
                refine AllReadyIn.cons rfl (fun K hK => ?_) ?_
                · (refine stepIn_append rfl (.tmp 39) (.tmp 42) 36 rfl (B + 3) 3 i0 (.int .i64 0) 1 8 Tryz.underlying36 hi0 hz0 hz1 hz2 rfl (by decide) (.slice p k c) k (((restKL x2).take k).map (Value.int .i64)) rfl (ho3.alloc _) ⟨w3.heap.size, 0, none⟩ 1 1 [.int .i64 (numN x : Int)] rfl rfl (cell_one_new _ _ _) (fun q hq => by simp at hq; subst hq; rfl) (by decide) (by unfold maxLen; omega) (by omega) (by rw [World.size_alloc]; omega) ?_; intro g' cap' w4 hown hgrow; have hp25 := (World.grownBy.cell_far hgrow ⟨BP, 2, none⟩ (Nat.lt_of_lt_of_le (Nat.lt_of_lt_of_le hPL hs3) (by rw [World.size_alloc]; exact Nat.le_succ _)) hneP).trans hp24; have hpf25 := (World.grownBy.frozen_far hgrow ⟨BP, 2, none⟩ (Nat.lt_of_lt_of_le (Nat.lt_of_lt_of_le hPL hs3) (by rw [World.size_alloc]; exact Nat.le_succ _)) hneP).trans hpf24)
                  refine hK _ _ ?_
                  clear hK K
                  refine wpAnyIn_ready (rs := [6]) (by kernel_rfl) (by simp) ?_
                  refine AllReadyIn.cons rfl (fun K hK => ?_) ?_
                  · go_simp
                    refine hK _ _ ?_
                    clear hK K
                    refine wpAnyIn_ready (rs := [7]) (by kernel_rfl) (by simp) ?_
                    refine AllReadyIn.cons rfl (fun K hK => ?_) ?_
                    · go_simp
                      refine hK _ _ ?_
                      clear hK K
                      refine wpAnyIn_done (by kernel_rfl) ?_ _
                      exact read_round x2 A b w W w3 w4 BP B k p c x g' cap' _ b3 ho3 hown hgrow hne ⟨⟨hp0, hp1, hp2⟩, hpf⟩ hr0 hb hj hsW hBP hPB hk hxx hg
                    exact AllReadyIn.nil
                  exact AllReadyIn.nil
                exact AllReadyIn.nil
              exact AllReadyIn.nil
            exact AllReadyIn.nil
          refine AllReadyIn.cons rfl (fun K hK => ?_) ?_
          · go_simp
            refine hK _ _ ?_
            clear hK K
            refine wpAnyIn_ready (rs := [0]) (by kernel_rfl) (by simp) ?_
            refine AllReadyIn.cons rfl (fun K hK => ?_) ?_
            · go_simp
              refine hK _ _ ?_
              clear hK K
              refine wpAnyIn_ready (rs := [1]) (by kernel_rfl) (by simp) ?_
              refine AllReadyIn.cons rfl (fun K hK => ?_) ?_
              · go_simp
                refine hK _ _ ?_
                clear hK K
                refine wpAnyIn_ready (rs := [5]) (by kernel_rfl) (by simp) ?_
                refine AllReadyIn.cons rfl (fun K hK => ?_) ?_
                · (refine stepIn_append rfl (.tmp 39) (.tmp 42) 36 rfl (B + 3) 3 i0 (.int .i64 0) 1 8 Tryz.underlying36 hi0 hz0 hz1 hz2 rfl (by decide) (.slice p k c) k (((restKL x2).take k).map (Value.int .i64)) rfl (ho3.alloc _) ⟨w3.heap.size, 0, none⟩ 1 1 [.int .i64 (numN x : Int)] rfl rfl (cell_one_new _ _ _) (fun q hq => by simp at hq; subst hq; rfl) (by decide) (by unfold maxLen; omega) (by omega) (by rw [World.size_alloc]; omega) ?_; intro g' cap' w4 hown hgrow; have hp25 := (World.grownBy.cell_far hgrow ⟨BP, 2, none⟩ (Nat.lt_of_lt_of_le (Nat.lt_of_lt_of_le hPL hs3) (by rw [World.size_alloc]; exact Nat.le_succ _)) hneP).trans hp24; have hpf25 := (World.grownBy.frozen_far hgrow ⟨BP, 2, none⟩ (Nat.lt_of_lt_of_le (Nat.lt_of_lt_of_le hPL hs3) (by rw [World.size_alloc]; exact Nat.le_succ _)) hneP).trans hpf24)
                  refine hK _ _ ?_
                  clear hK K
                  refine wpAnyIn_ready (rs := [6]) (by kernel_rfl) (by simp) ?_
                  refine AllReadyIn.cons rfl (fun K hK => ?_) ?_
                  · go_simp
                    refine hK _ _ ?_
                    clear hK K
                    refine wpAnyIn_ready (rs := [7]) (by kernel_rfl) (by simp) ?_
                    refine AllReadyIn.cons rfl (fun K hK => ?_) ?_
                    · go_simp
                      refine hK _ _ ?_
                      clear hK K
                      refine wpAnyIn_done (by kernel_rfl) ?_ _
                      exact read_round x2 A b w W w3 w4 BP B k p c x g' cap' _ b3 ho3 hown hgrow hne ⟨⟨hp0, hp1, hp2⟩, hpf⟩ hr0 hb hj hsW hBP hPB hk hxx hg
                    exact AllReadyIn.nil
                  exact AllReadyIn.nil
                exact AllReadyIn.nil
              exact AllReadyIn.nil
            exact AllReadyIn.nil
          exact AllReadyIn.nil
        exact AllReadyIn.nil
      exact AllReadyIn.nil
    · gi_wp2
      refine wpIn_region_any (by kernel_rfl) ?_
      try (change wpAnyIn _ _ _ _ _ _ _ _ _ (World.drew _))
      refine wpAnyIn_ready (rs := [0, 2]) (by kernel_rfl) (by simp) ?_
      refine AllReadyIn.cons rfl (fun K hK => ?_) ?_
      · go_simp
        refine hK _ _ ?_
        clear hK K
        refine wpAnyIn_ready (rs := [1, 2]) (by kernel_rfl) (by simp) ?_
        refine AllReadyIn.cons rfl (fun K hK => ?_) ?_
        · go_simp
          refine hK _ _ ?_
          clear hK K
          refine wpAnyIn_ready (rs := [2]) (by kernel_rfl) (by simp) ?_
          refine AllReadyIn.cons rfl (fun K hK => ?_) ?_
          · go_simp
            refine hK _ _ ?_
            clear hK K
            refine wpAnyIn_ready (rs := [3]) (by kernel_rfl) (by simp) ?_
            refine AllReadyIn.cons rfl (fun K hK => ?_) ?_
            · go_simp
              (refine ⟨trivial, rfl, (CallsIn.inRound l (callsIn_wide.2 (number_no x hxs 8192 (by decide) (by decide) hg W.drew ht2 he2))).mono ?_⟩; rintro e w3 ⟨rfl, b3⟩; exact ⟨rfl, keeps_below ((Below.refl _ W).drew.trans b3), rfl, fun h => hg (hxx ▸ h.1 k hk), hb.drew.trans (b3.mono hb.size)⟩)
            exact AllReadyIn.nil
          exact AllReadyIn.nil
        refine AllReadyIn.cons rfl (fun K hK => ?_) ?_
        · go_simp
          refine hK _ _ ?_
          clear hK K
          refine wpAnyIn_ready (rs := [1, 3]) (by kernel_rfl) (by simp) ?_
          refine AllReadyIn.cons rfl (fun K hK => ?_) ?_
          · go_simp
            refine hK _ _ ?_
            clear hK K
            refine wpAnyIn_ready (rs := [3]) (by kernel_rfl) (by simp) ?_
            refine AllReadyIn.cons rfl (fun K hK => ?_) ?_
            · go_simp
              (refine ⟨trivial, rfl, (CallsIn.inRound l (callsIn_wide.2 (number_no x hxs 8192 (by decide) (by decide) hg W.drew ht2 he2))).mono ?_⟩; rintro e w3 ⟨rfl, b3⟩; exact ⟨rfl, keeps_below ((Below.refl _ W).drew.trans b3), rfl, fun h => hg (hxx ▸ h.1 k hk), hb.drew.trans (b3.mono hb.size)⟩)
            exact AllReadyIn.nil
          refine AllReadyIn.cons rfl (fun K hK => ?_) ?_
          · go_simp
            (refine ⟨trivial, rfl, (CallsIn.inRound l (callsIn_wide.2 (number_no x hxs 8192 (by decide) (by decide) hg W.drew ht2 he2))).mono ?_⟩; rintro e w3 ⟨rfl, b3⟩; exact ⟨rfl, keeps_below ((Below.refl _ W).drew.trans b3), rfl, fun h => hg (hxx ▸ h.1 k hk), hb.drew.trans (b3.mono hb.size)⟩)
          exact AllReadyIn.nil
        exact AllReadyIn.nil
      refine AllReadyIn.cons rfl (fun K hK => ?_) ?_
      · go_simp
        refine hK _ _ ?_
        clear hK K
        refine wpAnyIn_ready (rs := [0, 3]) (by kernel_rfl) (by simp) ?_
        refine AllReadyIn.cons rfl (fun K hK => ?_) ?_
        · go_simp
          refine hK _ _ ?_
          clear hK K
          refine wpAnyIn_ready (rs := [1, 3]) (by kernel_rfl) (by simp) ?_
          refine AllReadyIn.cons rfl (fun K hK => ?_) ?_
          · go_simp
            refine hK _ _ ?_
            clear hK K
            refine wpAnyIn_ready (rs := [3]) (by kernel_rfl) (by simp) ?_
            refine AllReadyIn.cons rfl (fun K hK => ?_) ?_
            · go_simp
              (refine ⟨trivial, rfl, (CallsIn.inRound l (callsIn_wide.2 (number_no x hxs 8192 (by decide) (by decide) hg W.drew ht2 he2))).mono ?_⟩; rintro e w3 ⟨rfl, b3⟩; exact ⟨rfl, keeps_below ((Below.refl _ W).drew.trans b3), rfl, fun h => hg (hxx ▸ h.1 k hk), hb.drew.trans (b3.mono hb.size)⟩)
            exact AllReadyIn.nil
          refine AllReadyIn.cons rfl (fun K hK => ?_) ?_
          · go_simp
            (refine ⟨trivial, rfl, (CallsIn.inRound l (callsIn_wide.2 (number_no x hxs 8192 (by decide) (by decide) hg W.drew ht2 he2))).mono ?_⟩; rintro e w3 ⟨rfl, b3⟩; exact ⟨rfl, keeps_below ((Below.refl _ W).drew.trans b3), rfl, fun h => hg (hxx ▸ h.1 k hk), hb.drew.trans (b3.mono hb.size)⟩)
          exact AllReadyIn.nil
        refine AllReadyIn.cons rfl (fun K hK => ?_) ?_
        · go_simp
          (refine ⟨trivial, rfl, (CallsIn.inRound l (callsIn_wide.2 (number_no x hxs 8192 (by decide) (by decide) hg W.drew ht2 he2))).mono ?_⟩; rintro e w3 ⟨rfl, b3⟩; exact ⟨rfl, keeps_below ((Below.refl _ W).drew.trans b3), rfl, fun h => hg (hxx ▸ h.1 k hk), hb.drew.trans (b3.mono hb.size)⟩)
        exact AllReadyIn.nil
      exact AllReadyIn.nil
  case done =>
    rintro D W hD ⟨⟨v, ⟨⟨hp0, hp1, hp2⟩, hpf⟩, ho⟩, ⟨⟨hr00, hr01, hr02⟩, hrf⟩, hb, hj, hsW⟩ hk
    have hlen : (restKL x2).length = (pcS 44 x2).length := List.length_map ..
    rw [List.take_of_length_le (by omega), ← hlen] at ho
    have hpl : (pcS 44 x2).length ≤ 1000001 := pcS_short 44 x2 hs2
    refine WpAt.ofw ?_
    go_wp2_with fail
    refine (fcheck_any A b v (restKL x2) _ (IntsNew.at ho) (by omega)).mono ?_
    rintro e W3 ⟨rfl, b3⟩
    have hp0' := cell_kept hp0 b3
    have hp1' := cell_kept hp1 b3
    have hp2' := cell_kept hp2 b3
    have hpe := restE x2 A hA hj
    obtain ⟨p, c, rfl⟩ := ownsRow_slice ho
    have hRL := World.block_lt_of_cell? W _ hr00
    have hr00' := cell_kept hr00 b3
    have hr01' := cell_kept hr01 b3
    have hr02' := cell_kept hr02 b3
    have hrf0 := free_kept (hrf 0) hRL b3
    have hrf1 := free_kept (hrf 1) hRL b3
    have hrf2 := free_kept (hrf 2) hRL b3
    have c3 : Below w.heap.size w W3 := hb.trans (b3.mono hb.size)
    by_cases h34 : (pcS 44 x2).length ≤ 34
    · rw [if_pos h34] at hpe
      rw [hpe]
      go_wp2_with fail
      refine (need_yes _).mono ?_
      rintro e w4 ⟨rfl, rfl⟩
      go_wp2_with fail
      rw [← hlen]
      exact read_end x2 A b w W3 B D p c R0 _ rfl hRB (by omega) c3 ⟨⟨hr00', hr01', hr02'⟩, fun j => free_kept (hrf j) hRL b3⟩ ((b3.block D (Array.getElem?_eq_some_iff.1 hk).1).trans hk) (own_below ho b3) (hyes ⟨hj, h34⟩)
    · rw [if_neg h34] at hpe
      rw [hpe]
      go_wp2_with fail
      refine (need_no _).mono ?_
      rintro e w4 ⟨rfl, rfl⟩
      have hk3 : W3.heap[D]? = some (.deferred (some [])) := (b3.block D (Array.getElem?_eq_some_iff.1 hk).1).trans hk
      exact Or.inr ⟨_, D, _, rfl, rfl, run_takeDeferred hk3, hno (fun h => h34 h.2) _, c3.grown (grownBy_putObj' W3 D _) c3.size fun j ej => by cases ej; omega⟩
  case panic =>
    rintro D ch W hD ⟨rfl, hn, c3⟩ hk
    exact Or.inr ⟨_, D, _, rfl, rfl, run_takeDeferred hk, hno hn _, c3.grown (grownBy_putObj' W D _) c3.size fun j ej => by cases ej; omega⟩
end Go.Proofs.YtlmbcclggaflaaaGreatDoor
namespace Go.Proofs.YtlmbcclggaflaaaGreatDoor
open Go Go.RowKit Go.Shelf
attribute [local go_sem] Oper.semAt_some

/-- What read does: the plan, or its panic. -/
def readPost (B : Nat) (s : ByteArray) (e : Ending) (w' : World) : Prop :=
  (goodP s ∧ ∃ v, e = .returned (planV (numN (w3 s 0) : Int) (decide (w3 s 1 = yS)) v) ∧ IntsNew B w' v (kepL s)) ∨ (¬ goodP s ∧ e = .panicked [{ v := malV, recovered := false }])
theorem read_yes (s x0 x1 x2 : ByteArray) (b : Bool) (B : Nat) (h0 : w3 s 0 = x0) (h1 : w3 s 1 = x1) (h2 : w3 s 2 = x2) (hw : w3P s) (hg : numG x0 1000000) (hb : decide (x1 = yS) = b) :
    restOK x2 → ∀ v w', IntsNew B w' v (restKL x2) → readPost B s (.returned (planV (numN x0 : Int) b v)) w' := by
  subst h0 h1 h2 hb
  intro h v w' hi
  exact Or.inl ⟨⟨hw, hg, h.1, h.2⟩, v, rfl, hi⟩
theorem read_no (s x2 : ByteArray) (B : Nat) (h2 : w3 s 2 = x2) : ¬ restOK x2 → ∀ w', readPost B s (.panicked [{ v := malV, recovered := false }]) w' := by
  subst h2
  intro h w'
  exact Or.inr ⟨fun hg => h ⟨hg.2.2.1, hg.2.2.2⟩, rfl⟩
set_option maxRecDepth 100000 in
set_option maxHeartbeats 8000000 in
theorem read_any (s : ByteArray) (hs : s.size ≤ 1000000) (m : Int) (w : World) (ht : Tab w) (he : Errs w) (hm : w.cell? ⟨0, 0, none⟩ = some (.int .i64 m)) :
    Calls Tryz.prog 86 #[.string s] w fun e w' => readPost w.heap.size s e w' ∧ Below w.heap.size w w' := by
  have HT := Lib.hid ht
  have HE := Lib.hid he
  have HM := Lib.hid hm
  have HS := Lib.hid hs
  clear ht he hm hs
  refine (callsIn_wide (n := 0)).1 ?_
  refine callsIn_of_wpAtP Tryz.func86 rfl trivial ?_ rfl
  simp only [Tryz.ntmps86, List.size_toArray, List.length_cons, List.length_nil, Nat.reduceAdd, Nat.reduceSub, Array.replicate_succ, Array.replicate_zero, List.push_toArray, List.append_toArray, List.nil_append, List.cons_append]
  refine WpAt.seq trivial (WpAt.ofw ?_)
  go_wp2_with fail
  refine WpAt.seq trivial (WpAt.ofw ?_)
  go_wp2_with fail
  refine (splitp_any s HS.out 32 m _ (cell_old HM.out)).mono ?_
  rintro e w1 ⟨rfl, hx, b1⟩
  have c1 : Below w.heap.size w w1 := ((Below.refl _ _).alloc (Nat.le_refl _) _).trans (b1.mono (by simp))
  have hB : w.heap.size < (w.alloc (.cells #[.int .i64 0, .bool false, .slice none 0 0] 38)).heap.size := by simp
  have hres : Hid ((w1.cell? ⟨w.heap.size, 0, none⟩ = some (.int .i64 0) ∧ w1.cell? ⟨w.heap.size, 1, none⟩ = some (.bool false) ∧ w1.cell? ⟨w.heap.size, 2, none⟩ = some (.slice none 0 0)) ∧ ∀ j, w1.frozen? ⟨w.heap.size, j, none⟩ = false) :=
    ⟨⟨cell_kept (new_cell _ _ 0 _ rfl) b1, cell_kept (new_cell _ _ 1 _ rfl) b1, cell_kept (new_cell _ _ 2 _ rfl) b1⟩, fun j => free_kept (new_free _ _ j) hB b1⟩
  generalize (w.alloc (.cells #[.int .i64 0, .bool false, .slice none 0 0] 38)).heap.size = B1 at *
  clear b1
  obtain ⟨nw, hnw⟩ : ∃ n, (pcS 32 s).length = n := ⟨_, rfl⟩
  by_cases h3 : nw = 3
  · subst h3
    rw [hnw]
    have hc0 : w1.cell? ⟨B1, 0, none⟩ = some (.string (w3 s 0)) := hx 0 (by omega)
    have hc1 : w1.cell? ⟨B1, 1, none⟩ = some (.string (w3 s 1)) := hx 1 (by omega)
    have hc2 : w1.cell? ⟨B1, 2, none⟩ = some (.string (w3 s 2)) := hx 2 (by omega)
    obtain ⟨x0, hx0⟩ : ∃ x, w3 s 0 = x := ⟨_, rfl⟩
    obtain ⟨x1, hx1⟩ : ∃ x, w3 s 1 = x := ⟨_, rfl⟩
    obtain ⟨x2, hx2⟩ : ∃ x, w3 s 2 = x := ⟨_, rfl⟩
    rw [hx0] at hc0
    rw [hx1] at hc1
    rw [hx2] at hc2
    have HX0 := Lib.hid hx0
    have HX1 := Lib.hid hx1
    have HX2 := Lib.hid hx2
    have HN3 := Lib.hid hnw
    clear hx hx0 hx1 hx2 hnw
    by_cases hyn : x1 = yS ∨ x1 = nS
    · have hd : ∃ b : Bool, decide (x1 = yS) = b ∧ (x1.toList == [121]) = b ∧ (b = true ∨ (x1.toList == [110]) = true) := by
        rcases hyn with rfl | rfl
        · exact ⟨true, by decide, by rw [ByteArray.toList_eq]; decide, Or.inl rfl⟩
        · exact ⟨false, by decide, by rw [ByteArray.toList_eq]; decide, Or.inr (by rw [ByteArray.toList_eq]; decide)⟩
      obtain ⟨b, hb0, hb1, hb2⟩ := hd
      have HBD := Lib.hid hb0
      have hsz0 : x0.size ≤ 1000000 := by rw [← HX0.out]; exact Nat.le_trans (pcS_size 32 s 0) HS.out
      have hsz2 : x2.size ≤ 1000000 := by rw [← HX2.out]; exact Nat.le_trans (pcS_size 32 s 2) HS.out
      have HW3 : Hid (w3P s) := ⟨HN3.out, by rw [HX1.out]; exact hyn⟩
      have HS0 := Lib.hid hsz0
      have HS2 := Lib.hid hsz2
      clear hyn hb0 hsz0 hsz2
      cases b
      · have hb3 := hb2.resolve_left (by decide)
        clear hb2
        go_wp2_with fail
        refine WpAt.seq trivial (WpAt.ofw ?_)
        go_wp2_with fail
        refine (need_yes _).mono ?_
        rintro e w2 ⟨rfl, rfl⟩
        go_wp2_with fail
        refine WpAt.seq_k trivial (fun K hK => WpAt.ofw ?_)
        have c1d := c1.drew
        have c1a := (c1.alloc c1.size (.cells #[.int .i64 0, .bool false, .slice none 0 0] 38)).drew
        have hc1d : w1.drew.cell? ⟨B1, 1, none⟩ = some (.string x1) := hc1
        have hc0a : (w1.alloc (.cells #[.int .i64 0, .bool false, .slice none 0 0] 38)).drew.cell? ⟨B1, 0, none⟩ = some (.string x0) := cell_old hc0
        have hc1a : (w1.alloc (.cells #[.int .i64 0, .bool false, .slice none 0 0] 38)).drew.cell? ⟨B1, 1, none⟩ = some (.string x1) := cell_old hc1
        by_cases hg0 : numG x0 1000000
        · have HG0 := Lib.hid hg0
          clear hg0
          have hpn : PlanAt (w1.alloc (.cells #[.int .i64 0, .bool false, .slice none 0 0] 38)).drew w1.heap.size 0 false (.slice none 0 0) := PlanAt.new w1 0 false (.slice none 0 0) 38
          have HPN := Lib.hid hpn
          clear hpn
          go_cut [4] from 24 to 32 (fun a wx => ∃ BP, a = .pointer (some ⟨BP, 0, none⟩) ∧ w1.heap.size ≤ BP ∧ Hid (PlanAt wx BP (numN x0 : Int) false (.slice none 0 0)) ∧ Hid (Below w1.heap.size w1 wx))
          case first =>
            go_region_with (go_at_call 112; first | (refine (number_yes x0 HS0.out 1000000 (by decide) (by decide) HG0.out _ (HT.out.below c1d) (HE.out.below c1d)).mono ?_; rintro e w2 ⟨rfl, b1⟩; have cA2 : Below w1.heap.size w1 w2 := (Below.refl w1.heap.size w1).drew.trans b1; have hA2 : w1.heap.size ≤ w2.heap.size := cA2.size; have hc1' := cell_kept hc1d b1; have hc1x : (w2.alloc (.cells #[.int .i64 0, .bool false, .slice none 0 0] 38)).cell? ⟨B1, 1, none⟩ = some (.string x1) := cell_old hc1') | (refine (number_yes x0 HS0.out 1000000 (by decide) (by decide) HG0.out _ (HT.out.below c1a) (HE.out.below c1a)).mono ?_; rintro e w2 ⟨rfl, b1⟩; have cB2 : Below w1.heap.size w1 w2 := (((Below.refl w1.heap.size w1).alloc (Nat.le_refl _) (.cells #[.int .i64 0, .bool false, .slice none 0 0] 38)).drew).trans (b1.mono (by rw [World.drew, World.size_alloc]; omega)); have hc1' := cell_kept hc1a b1; have HP2 := Lib.hid (HPN.out.below b1); obtain ⟨⟨p0, p1, p2⟩, pf⟩ := HPN.out.below b1; have pf0 := pf 0; have pf1 := pf 1; have pf2 := pf 2))
            all_goals (go_wp2_with fail; go_meet; first | exact ⟨_, rfl, hA2, Lib.hid (PlanAt.new w2 (numN x0 : Int) false (.slice none 0 0) 38), Lib.hid (cA2.alloc hA2 _)⟩ | exact ⟨_, rfl, Nat.le_refl _, Lib.hid (HP2.out.set (numN x0 : Int) false (.slice none 0 0)), Lib.hid (below_set (below_set (below_set cB2 _ (Nat.le_refl _) 0 _) _ (Nat.le_refl _) 1 _) _ (Nat.le_refl _) 2 _)⟩)
          case rest =>
            obtain ⟨BP, rfl, hBP, HP, HBl⟩ := hcut
            have hRL := World.block_lt_of_cell? w1 _ hres.out.1.1
            refine hK _ _ ?_
            exact read_rest x2 (numN x0 : Int) false w wc B1 BP (readPost w.heap.size s) _ _ _ _ _ _ _ _ _ _ _ _ _ _ _ _ _ _ _ _ _ _ _ _ _ _ _ _ _ _ _ _ _ _ _ _ _ _ _ _ _ _ _ _ _ _ _ HT.out HE.out (c1.trans (HBl.out.mono c1.size)) (PlanAt.below hres.out HBl.out) HP.out (Nat.lt_of_lt_of_le hRL hBP) (cell_kept hc2 HBl.out) HS2.out ⟨by omega, HG0.out.2⟩ (read_yes s x0 x1 x2 false _ HX0.out HX1.out HX2.out HW3.out HG0.out HBD.out) (read_no s x2 _ HX2.out)
        · have HN : Hid (¬ goodP s) := fun h => hg0 (by rw [← HX0.out]; exact h.2.1)
          have HG0 := Lib.hid hg0
          clear hg0
          go_region_dies
          all_goals (first
            | (refine (number_no x0 HS0.out 1000000 (by decide) (by decide) HG0.out _ (HT.out.below c1d) (HE.out.below c1d)).mono ?_; rintro e w2 ⟨rfl, b1⟩; exact Or.inl ⟨rfl, Or.inr ⟨HN.out, rfl⟩, c1d.trans (b1.mono c1d.size)⟩)
            | (refine (number_no x0 HS0.out 1000000 (by decide) (by decide) HG0.out _ (HT.out.below c1a) (HE.out.below c1a)).mono ?_; rintro e w2 ⟨rfl, b1⟩; exact Or.inl ⟨rfl, Or.inr ⟨HN.out, rfl⟩, c1a.trans (b1.mono c1a.size)⟩))
      · clear hb2
        go_wp2_with fail
        refine WpAt.seq trivial (WpAt.ofw ?_)
        go_wp2_with fail
        refine (need_yes _).mono ?_
        rintro e w2 ⟨rfl, rfl⟩
        go_wp2_with fail
        refine WpAt.seq_k trivial (fun K hK => WpAt.ofw ?_)
        have c1d := c1.drew
        have c1a := (c1.alloc c1.size (.cells #[.int .i64 0, .bool false, .slice none 0 0] 38)).drew
        have hc1d : w1.drew.cell? ⟨B1, 1, none⟩ = some (.string x1) := hc1
        have hc0a : (w1.alloc (.cells #[.int .i64 0, .bool false, .slice none 0 0] 38)).drew.cell? ⟨B1, 0, none⟩ = some (.string x0) := cell_old hc0
        have hc1a : (w1.alloc (.cells #[.int .i64 0, .bool false, .slice none 0 0] 38)).drew.cell? ⟨B1, 1, none⟩ = some (.string x1) := cell_old hc1
        by_cases hg0 : numG x0 1000000
        · have HG0 := Lib.hid hg0
          clear hg0
          have hpn : PlanAt (w1.alloc (.cells #[.int .i64 0, .bool false, .slice none 0 0] 38)).drew w1.heap.size 0 false (.slice none 0 0) := PlanAt.new w1 0 false (.slice none 0 0) 38
          have HPN := Lib.hid hpn
          clear hpn
          go_cut [4] from 24 to 32 (fun a wx => ∃ BP, a = .pointer (some ⟨BP, 0, none⟩) ∧ w1.heap.size ≤ BP ∧ Hid (PlanAt wx BP (numN x0 : Int) true (.slice none 0 0)) ∧ Hid (Below w1.heap.size w1 wx))
          case first =>
            go_region_with (go_at_call 112; first | (refine (number_yes x0 HS0.out 1000000 (by decide) (by decide) HG0.out _ (HT.out.below c1d) (HE.out.below c1d)).mono ?_; rintro e w2 ⟨rfl, b1⟩; have cA2 : Below w1.heap.size w1 w2 := (Below.refl w1.heap.size w1).drew.trans b1; have hA2 : w1.heap.size ≤ w2.heap.size := cA2.size; have hc1' := cell_kept hc1d b1; have hc1x : (w2.alloc (.cells #[.int .i64 0, .bool false, .slice none 0 0] 38)).cell? ⟨B1, 1, none⟩ = some (.string x1) := cell_old hc1') | (refine (number_yes x0 HS0.out 1000000 (by decide) (by decide) HG0.out _ (HT.out.below c1a) (HE.out.below c1a)).mono ?_; rintro e w2 ⟨rfl, b1⟩; have cB2 : Below w1.heap.size w1 w2 := (((Below.refl w1.heap.size w1).alloc (Nat.le_refl _) (.cells #[.int .i64 0, .bool false, .slice none 0 0] 38)).drew).trans (b1.mono (by rw [World.drew, World.size_alloc]; omega)); have hc1' := cell_kept hc1a b1; have HP2 := Lib.hid (HPN.out.below b1); obtain ⟨⟨p0, p1, p2⟩, pf⟩ := HPN.out.below b1; have pf0 := pf 0; have pf1 := pf 1; have pf2 := pf 2))
            all_goals (go_wp2_with fail; go_meet; first | exact ⟨_, rfl, hA2, Lib.hid (PlanAt.new w2 (numN x0 : Int) true (.slice none 0 0) 38), Lib.hid (cA2.alloc hA2 _)⟩ | exact ⟨_, rfl, Nat.le_refl _, Lib.hid (HP2.out.set (numN x0 : Int) true (.slice none 0 0)), Lib.hid (below_set (below_set (below_set cB2 _ (Nat.le_refl _) 0 _) _ (Nat.le_refl _) 1 _) _ (Nat.le_refl _) 2 _)⟩)
          case rest =>
            obtain ⟨BP, rfl, hBP, HP, HBl⟩ := hcut
            have hRL := World.block_lt_of_cell? w1 _ hres.out.1.1
            refine hK _ _ ?_
            exact read_rest x2 (numN x0 : Int) true w wc B1 BP (readPost w.heap.size s) _ _ _ _ _ _ _ _ _ _ _ _ _ _ _ _ _ _ _ _ _ _ _ _ _ _ _ _ _ _ _ _ _ _ _ _ _ _ _ _ _ _ _ _ _ _ _ HT.out HE.out (c1.trans (HBl.out.mono c1.size)) (PlanAt.below hres.out HBl.out) HP.out (Nat.lt_of_lt_of_le hRL hBP) (cell_kept hc2 HBl.out) HS2.out ⟨by omega, HG0.out.2⟩ (read_yes s x0 x1 x2 true _ HX0.out HX1.out HX2.out HW3.out HG0.out HBD.out) (read_no s x2 _ HX2.out)
        · have HN : Hid (¬ goodP s) := fun h => hg0 (by rw [← HX0.out]; exact h.2.1)
          have HG0 := Lib.hid hg0
          clear hg0
          go_region_dies
          all_goals (first
            | (refine (number_no x0 HS0.out 1000000 (by decide) (by decide) HG0.out _ (HT.out.below c1d) (HE.out.below c1d)).mono ?_; rintro e w2 ⟨rfl, b1⟩; exact Or.inl ⟨rfl, Or.inr ⟨HN.out, rfl⟩, c1d.trans (b1.mono c1d.size)⟩)
            | (refine (number_no x0 HS0.out 1000000 (by decide) (by decide) HG0.out _ (HT.out.below c1a) (HE.out.below c1a)).mono ?_; rintro e w2 ⟨rfl, b1⟩; exact Or.inl ⟨rfl, Or.inr ⟨HN.out, rfl⟩, c1a.trans (b1.mono c1a.size)⟩))
    · have d2 : (x1.toList == [121]) = false := by
        rw [ByteArray.toList_eq, beq_eq_false_iff_ne]
        intro h
        exact hyn (Or.inl (by apply ByteArray.ext; apply Array.ext'; exact h))
      have d3 : (x1.toList == [110]) = false := by
        rw [ByteArray.toList_eq, beq_eq_false_iff_ne]
        intro h
        exact hyn (Or.inr (by apply ByteArray.ext; apply Array.ext'; exact h))
      have HN : Hid (¬ goodP s) := fun h => hyn (by rw [← HX1.out]; exact h.1.2)
      clear hyn
      go_wp2_with fail
      refine WpAt.seq trivial (WpAt.ofw ?_)
      go_wp2_with fail
      refine (need_no _).mono ?_
      rintro e w2 ⟨rfl, rfl⟩
      exact Or.inl ⟨rfl, Or.inr ⟨HN.out, rfl⟩, c1⟩
  · have d1 : ((nw : Int) == 3) = false := by rw [beq_eq_false_iff_ne]; omega
    have HN : Hid (¬ goodP s) := fun h => h3 (by rw [← hnw]; exact h.1.1)
    rw [hnw]
    clear hx h3 hnw
    go_wp2_with fail
    refine WpAt.seq trivial (WpAt.ofw ?_)
    go_wp2_with fail
    refine (need_no _).mono ?_
    rintro e w2 ⟨rfl, rfl⟩
    exact Or.inl ⟨rfl, Or.inr ⟨HN.out, rfl⟩, c1⟩
end Go.Proofs.YtlmbcclggaflaaaGreatDoor
namespace Go.Proofs.YtlmbcclggaflaaaGreatDoor
open Go Go.RowKit

theorem infoStr : (Tryz.prog.info? 9).map (fun i => (i.zero, i.size, i.bytes)) = some (some (.string ⟨#[]⟩), 1, 16) := by kernel_rfl
def strCellsL (l : List ByteArray) : List Value := l.map Value.string
theorem strCellsL_snoc (l : List ByteArray) (x : ByteArray) : strCellsL l ++ [Value.string x] = strCellsL (l ++ [x]) := by simp [strCellsL]
theorem join_is (xs : List ByteArray) (n : Nat) (hn : xs.length = n) (r sep : ByteArray) (hr : Lib.join (xs.map (·.data.toList)) sep.data.toList = r.data.toList) (hlen : r.size ≤ 140737488355328) (hn2 : n ≤ 100000) (B g c : Nat) (w : World) (h : w.ownsRow B 9 1 (.slice (some ⟨g, 0, none⟩) n c) n (strCellsL xs)) (h0 : 0 < n) :
    Calls Tryz.prog 27 #[.slice (some ⟨g, 0, none⟩) n c, .string sep] w fun e w' => e = .returned (.string r) ∧ Below w.heap.size w w' := by
  subst hn
  have hc : xs.length ≤ c := by
    rcases h.2 with ⟨he, _⟩ | ⟨g', cap, cur, he, _, _, hcap, _⟩
    · cases he
    · cases he; exact hcap
  have h2 := Tryz.strings_Join g 0 c xs sep w (fun j x hx => by
    have hj : j < xs.length := (List.getElem?_eq_some_iff.1 hx).1
    rw [Nat.zero_add, h.cellAt j (by omega)]
    unfold strCellsL
    rw [List.getElem?_map, hx]
    rfl) (h.lt g rfl).2 (by omega) hc (by rw [hr, str_len]; exact hlen)
  rw [hr, str_back] at h2
  exact h2
theorem lens_le (l : List (List UInt8)) (k : Nat) (h : ∀ x ∈ l, x.length ≤ k) : Lib.lens l ≤ k * l.length := by
  induction l with
  | nil => simp [Lib.lens]
  | cons x r ih =>
    have h1 := h x (by simp)
    have h2 := ih fun y hy => h y (by simp [hy])
    simp only [Lib.lens, List.length_cons, Nat.mul_add] at h2 ⊢
    simp at h2 ⊢
    omega
theorem join_le (l : List (List UInt8)) (d : UInt8) (k n : Nat) (h : ∀ x ∈ l, x.length ≤ k) (hn : l.length ≤ n) : (Lib.join l [d]).length ≤ (k + 1) * n := by
  have h2 := lens_le l k h
  cases l with
  | nil => simp [Lib.join]
  | cons y r =>
    rw [Lib.join_length]
    simp at hn h2 ⊢
    have h3 : (k + 1) * (r.length + 1) ≤ (k + 1) * n := Nat.mul_le_mul_left _ hn
    have h4 : (k + 1) * (r.length + 1) = k * (r.length + 1) + (r.length + 1) := by rw [Nat.add_mul, Nat.one_mul]
    omega
end Go.Proofs.YtlmbcclggaflaaaGreatDoor
namespace Go.Proofs.YtlmbcclggaflaaaGreatDoor
open Go Go.RowKit

def dB (k : Int) : ByteArray := pack (dS k)
def keepW (L : List Int) : List ByteArray := L.map dB
theorem keepW_snoc (L : List Int) (i : Nat) (h : i < L.length) : keepW (L.take (i + 1)) = keepW (L.take i) ++ [dB (L.getD i 0)] := by
  unfold keepW
  rw [List.take_add_one, List.map_append, List.getD, List.getElem?_eq_getElem h]
  rfl
theorem keepW_len (L : List Int) (i : Nat) (h : i ≤ L.length) : (keepW (L.take i)).length = i := by
  unfold keepW
  rw [List.length_map, List.length_take]
  omega
theorem keepW_data (L : List Int) : (keepW L).map (·.data.toList) = L.map dS := by
  unfold keepW
  rw [List.map_map]
  refine List.map_congr_left fun k _ => ?_
  exact pack_data _
theorem dS_len (k : Int) (h : k ≤ 1000000) : (dS k).length ≤ 7 :=
  dec_len 6 k.toNat (by have : (10 : Nat) ^ 7 = 10000000 := by decide
                        omega)
theorem dB_size (k : Int) (h : k ≤ 1000000) : (dB k).size ≤ 7 := by unfold dB; rw [pack_size]; exact dS_len k h
theorem keepT_len (L : List Int) (n : Nat) (h : ∀ k ∈ L, k ≤ 1000000) (hn : L.length ≤ n) : (keepT L).length ≤ 8 * n := by
  refine join_le _ _ 7 n (fun x hx => ?_) (by rw [List.length_map]; exact hn)
  rw [List.mem_map] at hx
  obtain ⟨k, hk, rfl⟩ := hx
  exact dS_len k (h k hk)
theorem itoa_dB (k : Int) (h : 0 ≤ k) : (⟨(Lib.itoa k).toArray⟩ : ByteArray) = dB k := by
  obtain ⟨n, rfl⟩ : ∃ n : Nat, k = (n : Int) := ⟨k.toNat, by omega⟩
  rw [Lib.itoa_nonneg]
  rfl
theorem itoa_is (k : Int) (h0 : 0 ≤ k) (h1 : k ≤ 1000000) (D : ByteArray) (hD : dB k = D) (w : World) (ht : Tab w) :
    Calls Tryz.prog 43 #[.int .i64 k] w fun e w' => e = .returned (.string D) ∧ Below w.heap.size w w' := by
  have h := itoa_any k (by omega) (by omega) w ht
  rw [itoa_dB k h0, hD] at h
  exact h
theorem rdig_is (k : Int) (h0 : 0 ≤ k) (h1 : k ≤ 1000000) (D : ByteArray) (hD : dB k = D) (w : World) :
    Calls Tryz.prog 127 #[.int .i64 k] w fun e w' => e = .returned (.string D) ∧ Below w.heap.size w w' := by
  obtain ⟨n, rfl⟩ : ∃ n : Nat, k = (n : Int) := ⟨k.toNat, by omega⟩
  have h := rdig_any (n + 1) n w (Nat.lt_succ_self n) (by show n ≤ 1000000000; omega)
  rw [← hD]
  exact h
abbrev doneB (d : Bool) : ByteArray := if d = true then ⟨#[121]⟩ else ⟨#[110]⟩
theorem text_cat (A : Int) (d : Bool) (L : List Int) (r : ByteArray) (hr : r.data.toList = textB A d L) : (((dB A ++ ⟨#[32]⟩) ++ doneB d) ++ ⟨#[32]⟩) ++ pack (keepT L) = r := by
  apply ByteArray.ext
  apply Array.ext'
  rw [hr, textB_eq]
  cases d <;> simp [dB, pack, doneB]
set_option maxHeartbeats 1000000 in
theorem rText_bad (A : Int) (d : Bool) (v : Value) (L : List Int) (w : World) (hv : IntsAt w v L) (hl : L.length ≤ 1099511627776) (hp : planOK A L = false) :
    Calls Tryz.prog 104 #[planV A d v] w fun x w' => x = .returned (.tuple #[.string ⟨#[]⟩, .int .i64 2]) ∧ Below w.heap.size w w' := by
  have HE : Hid (planE A L = 2) := by show _ = _; unfold planE; rw [if_neg (by rw [hp]; decide)]
  have c1 : Below w.heap.size w (w.alloc (.cells #[.int .i64 A, .bool d, v] 38)) := (Below.refl _ _).alloc (Nat.le_refl _) _
  obtain ⟨k0, k1, k2⟩ := planAt_new w A d v 38
  have HV := Lib.hid (hv.below c1)
  have HLn := Lib.hid hl
  clear hl hp hv
  go_enter Tryz.func104, Tryz.ntmps104
  go_wp2_with fail
  refine (rcheck_any A d _ L _ HV.out HLn.out).mono ?_
  rw [HE.out]
  rintro e w1 ⟨rfl, b1⟩
  have c2 := c1.trans (b1.mono c1.size)
  go_wp2_with fail
  go_ret2
  exact ⟨rfl, c2⟩
/-- What the reference has written ahead of a number. -/
def rT (A : Int) (d : Bool) (L : List Int) (i : Nat) : ByteArray := pack (dS A ++ 32 :: (if d = true then 121 else 110) :: 32 :: keepT (L.take i))
theorem rT_zero (A : Int) (d : Bool) (L : List Int) (D : ByteArray) (hD : dB A = D) : rT A d L 0 = D ++ (if d = true then ⟨#[32, 121, 32]⟩ else ⟨#[32, 110, 32]⟩) := by
  subst hD
  apply ByteArray.ext
  apply Array.ext'
  cases d <;> simp [rT, dB, pack, keepT, Lib.join]
theorem join_snoc : ∀ (l : List (List UInt8)) (x : List UInt8) (d : UInt8), l ≠ [] → Lib.join (l ++ [x]) [d] = Lib.join l [d] ++ d :: x
  | [], _, _, h => absurd rfl h
  | [a], x, d, _ => by rw [List.singleton_append, joinc_two, Lib.join_one, Lib.join_one]
  | a :: b :: t, x, d, _ => by
    have ih := join_snoc (b :: t) x d (by simp)
    rw [List.cons_append] at ih
    rw [List.cons_append, List.cons_append, joinc_two, joinc_two, ih]
    simp
theorem rT_one (A : Int) (d : Bool) (L : List Int) (h : 0 < L.length) : rT A d L 1 = rT A d L 0 ++ dB (L.getD 0 0) := by
  apply ByteArray.ext
  apply Array.ext'
  cases L with
  | nil => simp at h
  | cons a t => simp [rT, dB, pack, keepT, Lib.join]
theorem rT_succ (A : Int) (d : Bool) (L : List Int) (i : Nat) (h : i < L.length) (hi : 0 < i) : rT A d L (i + 1) = (rT A d L i ++ ⟨#[44]⟩) ++ dB (L.getD i 0) := by
  have e : keepT (L.take (i + 1)) = keepT (L.take i) ++ 44 :: dS (L.getD i 0) := by
    unfold keepT
    rw [List.take_add_one, List.getD, List.getElem?_eq_getElem h]
    simp only [Option.toList_some, List.map_append, List.map_cons, List.map_nil, Option.getD_some]
    refine join_snoc _ _ _ fun h0 => ?_
    rw [List.map_eq_nil_iff] at h0
    have := congrArg List.length h0
    rw [List.length_take, List.length_nil] at this
    omega
  apply ByteArray.ext
  apply Array.ext'
  simp [rT, dB, pack, e]
theorem rT_size (A : Int) (d : Bool) (L : List Int) (i : Nat) (hA : A ≤ 1000000) (h : ∀ k ∈ L, k ≤ 1000000) (hi : i ≤ 34) : (rT A d L i).size ≤ 300 := by
  unfold rT
  rw [pack_size, List.length_append]
  have h1 := dS_len A hA
  have h2 := keepT_len (L.take i) 34 (fun k hk => h k (List.mem_of_mem_take hk)) (by rw [List.length_take]; omega)
  simp
  omega
theorem rT_all (A : Int) (d : Bool) (L : List Int) (r : ByteArray) (hr : r.data.toList = textB A d L) : rT A d L L.length = r := by
  apply ByteArray.ext
  apply Array.ext'
  rw [hr, textB_eq]
  simp [rT, pack]
set_option maxRecDepth 100000 in
set_option maxHeartbeats 4000000 in
theorem rText_good (A : Int) (d : Bool) (v : Value) (L : List Int) (w : World) (hv : IntsAt w v L) (r : ByteArray) (hp : planOK A L = true) (hr : r.data.toList = textB A d L) :
    Calls Tryz.prog 104 #[planV A d v] w fun x w' => x = .returned (.tuple #[.string r, .int .i64 0]) ∧ Below w.heap.size w w' := by
  obtain ⟨h0, h1, h2, h3, h4⟩ := planOK_parts hp
  have HE : Hid (planE A L = 0) := by show _ = _; unfold planE; rw [if_pos hp]
  have HF := Lib.hid h4
  have HA0 := Lib.hid h0
  have HA1 := Lib.hid h1
  have HL := Lib.hid h3
  have c1 : Below w.heap.size w (w.alloc (.cells #[.int .i64 A, .bool d, v] 38)) := (Below.refl _ _).alloc (Nat.le_refl _) _
  obtain ⟨k0, k1, k2⟩ := planAt_new w A d v 38
  have HV := Lib.hid (hv.below c1)
  obtain ⟨p, c, rfl, hc, _⟩ := hv
  obtain ⟨D, hD⟩ : ∃ D, dB A = D := ⟨_, rfl⟩
  have HD := Lib.hid hD
  have hsD : D.size ≤ 7 := by rw [← hD]; exact dB_size A h1
  have HZ := Lib.hid (rT_zero A d L D hD)
  have HR := Lib.hid (rT_all A d L r hr)
  clear h0 h1 h2 h3 h4 hr hp hD
  go_enter Tryz.func104, Tryz.ntmps104
  go_wp2_with fail
  refine (rcheck_any A d _ L _ HV.out (by have := HL.out; omega)).mono ?_
  rw [HE.out]
  rintro e w1 ⟨rfl, b1⟩
  replace k0 := cell_kept k0 b1
  replace k1 := cell_kept k1 b1
  replace k2 := cell_kept k2 b1
  have HV1 := Lib.hid (HV.out.below b1)
  have c2 := c1.trans (b1.mono c1.size)
  clear b1 c1 HV
  go_wp2_with fail
  refine (rdig_is A HA0.out HA1.out D HD.out _).mono ?_
  rintro e w2 ⟨rfl, b1⟩
  replace k0 := cell_kept k0 b1
  replace k1 := cell_kept k1 b1
  replace k2 := cell_kept k2 b1
  have HV2 := Lib.hid (HV1.out.below b1)
  have c3 := c2.trans (b1.mono c2.size)
  clear b1 c2 HV1
  cases d
  · go_wp2_with fail
    go_loopw [4, 5] (fun vs vi wr => ∃ i : Nat, i ≤ L.length ∧ vi = .int .i64 i ∧ vs = .string (rT A false L i) ∧ wr.cell? ⟨w.heap.size, 2, none⟩ = some (.slice p L.length c) ∧ Hid (IntsAt wr (.slice p L.length c) L) ∧ Below w.heap.size w wr) (fun _ vi _ => L.length - (intOf vi).toNat)
    case atStart => exact ⟨0, Nat.zero_le _, rfl, by rw [HZ.out]; rfl, k2, HV2, c3⟩
    case round =>
      clear c3 k0 k1 k2 HV2
      obtain ⟨i, hi, rfl, rfl, k2, hV, c3⟩ := hrel
      have hl34 := HL.out
      have hsA := rT_size A false L i HA1.out (fun k hk => by have := HF.out k hk; omega) (by omega)
      obtain ⟨S, hS⟩ : ∃ S, rT A false L i = S := ⟨_, rfl⟩
      by_cases hlt : i < L.length
      · obtain ⟨p', c', he, _, hcell⟩ := hV.out
        injection he with e1 _ e2
        subst e1 e2
        obtain ⟨b, o, rfl, hci⟩ := hcell (by omega)
        have hcx := hci i hlt
        have hmem : L.getD i 0 ∈ L := by rw [List.getD, List.getElem?_eq_getElem hlt]; exact List.getElem_mem hlt
        have hfb := HF.out _ hmem
        have hs0 := rT_one A false L
        have hs1 := rT_succ A false L i hlt
        obtain ⟨k, hk⟩ : ∃ k, L.getD i 0 = k := ⟨_, rfl⟩
        obtain ⟨E, hE⟩ : ∃ E, dB k = E := ⟨_, rfl⟩
        have hsE : E.size ≤ 7 := by rw [← hE]; exact dB_size k (by rw [← hk]; omega)
        rw [hk] at hcx hfb hs1
        rw [hE, hS] at hs1
        rw [hS] at hsA
        rw [hS]
        have HEk := Lib.hid hE
        have HFB := Lib.hid hfb
        by_cases hi0 : 0 < i
        · have d0 : decide ((0 : Int) < (i : Int)) = true := by rw [decide_eq_true_iff]; omega
          have HSn : Hid (rT A false L (i + 1) = (S ++ ⟨#[44]⟩) ++ E) := hs1 hi0
          clear hci hmem hk hE hfb hs0 hs1 hcell hS
          go_wp2_with fail
          refine (rdig_is k HFB.out.1 (by have := HFB.out.2; omega) E HEk.out _).mono ?_
          rintro e w3 ⟨rfl, b1⟩
          replace k2 := cell_kept k2 b1
          have hV3 := Lib.hid (hV.out.below b1)
          have c4 := c3.trans (b1.mono c3.size)
          clear b1 c3 hV hcx
          go_wp2_with fail
          go_roundw
          case rel => exact ⟨i + 1, by omega, by go_num, by rw [HSn.out], k2, hV3, c4⟩
          case measure => simp [intOf]; omega
        · obtain rfl : i = 0 := by omega
          rw [Nat.add_zero] at hcx
          have HSn : Hid (rT A false L 1 = S ++ E) := by show _ = _; rw [hs0 (by omega), hk, hE, hS]
          clear hci hmem hk hE hfb hs0 hs1 hcell hS
          go_wp2_with fail
          refine (rdig_is k HFB.out.1 (by have := HFB.out.2; omega) E HEk.out _).mono ?_
          rintro e w3 ⟨rfl, b1⟩
          replace k2 := cell_kept k2 b1
          have hV3 := Lib.hid (hV.out.below b1)
          have c4 := c3.trans (b1.mono c3.size)
          clear b1 c3 hV hcx
          go_wp2_with fail
          go_roundw
          case rel => exact ⟨1, by omega, rfl, by rw [HSn.out], k2, hV3, c4⟩
          case measure => simp [intOf]; omega
      · obtain rfl : i = L.length := by omega
        rw [HR.out]
        clear hlt hi hS
        go_wp2_with fail
        go_ret2
        exact ⟨rfl, c3⟩
  · go_wp2_with fail
    refine (rdig_is A HA0.out HA1.out D HD.out _).mono ?_
    rintro e w3 ⟨rfl, b1⟩
    replace k0 := cell_kept k0 b1
    replace k1 := cell_kept k1 b1
    replace k2 := cell_kept k2 b1
    have HV3 := Lib.hid (HV2.out.below b1)
    have c4 := c3.trans (b1.mono c3.size)
    clear b1 c3 HV2
    have c3 := c4
    have HV2 := HV3
    clear c4 HV3
    go_wp2_with fail
    go_loopw [4, 5] (fun vs vi wr => ∃ i : Nat, i ≤ L.length ∧ vi = .int .i64 i ∧ vs = .string (rT A true L i) ∧ wr.cell? ⟨w.heap.size, 2, none⟩ = some (.slice p L.length c) ∧ Hid (IntsAt wr (.slice p L.length c) L) ∧ Below w.heap.size w wr) (fun _ vi _ => L.length - (intOf vi).toNat)
    case atStart => exact ⟨0, Nat.zero_le _, rfl, by rw [HZ.out]; rfl, k2, HV2, c3⟩
    case round =>
      clear c3 k0 k1 k2 HV2
      obtain ⟨i, hi, rfl, rfl, k2, hV, c3⟩ := hrel
      have hl34 := HL.out
      have hsA := rT_size A true L i HA1.out (fun k hk => by have := HF.out k hk; omega) (by omega)
      obtain ⟨S, hS⟩ : ∃ S, rT A true L i = S := ⟨_, rfl⟩
      by_cases hlt : i < L.length
      · obtain ⟨p', c', he, _, hcell⟩ := hV.out
        injection he with e1 _ e2
        subst e1 e2
        obtain ⟨b, o, rfl, hci⟩ := hcell (by omega)
        have hcx := hci i hlt
        have hmem : L.getD i 0 ∈ L := by rw [List.getD, List.getElem?_eq_getElem hlt]; exact List.getElem_mem hlt
        have hfb := HF.out _ hmem
        have hs0 := rT_one A true L
        have hs1 := rT_succ A true L i hlt
        obtain ⟨k, hk⟩ : ∃ k, L.getD i 0 = k := ⟨_, rfl⟩
        obtain ⟨E, hE⟩ : ∃ E, dB k = E := ⟨_, rfl⟩
        have hsE : E.size ≤ 7 := by rw [← hE]; exact dB_size k (by rw [← hk]; omega)
        rw [hk] at hcx hfb hs1
        rw [hE, hS] at hs1
        rw [hS] at hsA
        rw [hS]
        have HEk := Lib.hid hE
        have HFB := Lib.hid hfb
        by_cases hi0 : 0 < i
        · have d0 : decide ((0 : Int) < (i : Int)) = true := by rw [decide_eq_true_iff]; omega
          have HSn : Hid (rT A true L (i + 1) = (S ++ ⟨#[44]⟩) ++ E) := hs1 hi0
          clear hci hmem hk hE hfb hs0 hs1 hcell hS
          go_wp2_with fail
          refine (rdig_is k HFB.out.1 (by have := HFB.out.2; omega) E HEk.out _).mono ?_
          rintro e w3 ⟨rfl, b1⟩
          replace k2 := cell_kept k2 b1
          have hV3 := Lib.hid (hV.out.below b1)
          have c4 := c3.trans (b1.mono c3.size)
          clear b1 c3 hV hcx
          go_wp2_with fail
          go_roundw
          case rel => exact ⟨i + 1, by omega, by go_num, by rw [HSn.out], k2, hV3, c4⟩
          case measure => simp [intOf]; omega
        · obtain rfl : i = 0 := by omega
          rw [Nat.add_zero] at hcx
          have HSn : Hid (rT A true L 1 = S ++ E) := by show _ = _; rw [hs0 (by omega), hk, hE, hS]
          clear hci hmem hk hE hfb hs0 hs1 hcell hS
          go_wp2_with fail
          refine (rdig_is k HFB.out.1 (by have := HFB.out.2; omega) E HEk.out _).mono ?_
          rintro e w3 ⟨rfl, b1⟩
          replace k2 := cell_kept k2 b1
          have hV3 := Lib.hid (hV.out.below b1)
          have c4 := c3.trans (b1.mono c3.size)
          clear b1 c3 hV hcx
          go_wp2_with fail
          go_roundw
          case rel => exact ⟨1, by omega, rfl, by rw [HSn.out], k2, hV3, c4⟩
          case measure => simp [intOf]; omega
      · obtain rfl : i = L.length := by omega
        rw [HR.out]
        clear hlt hi hS
        go_wp2_with fail
        go_ret2
        exact ⟨rfl, c3⟩
end Go.Proofs.YtlmbcclggaflaaaGreatDoor
namespace Go.Proofs.YtlmbcclggaflaaaGreatDoor
open Go Go.RowKit

theorem intCells_one (L : List Int) : ∀ u ∈ L.map (Value.int .i64), u.oneCell' = true := by
  intro u hu
  simp only [List.mem_map] at hu
  obtain ⟨c, _, rfl⟩ := hu
  rfl
theorem run_append_ints {P : Program} (w : World) (base : Nat) (t ty e : TypeId) (i : TypeInfo) (z : Value) (ht : P.underlying t = some (.slice e)) (hi : P.info? e = some i) (hz : i.zero = some z)
    (hsize : i.size = 1) (hby : i.bytes = 8) (hzs : z.cells.size = 1) (v : Value) (n : Nat) (xs : List Value) (hown : w.ownsRow base e 1 v n xs)
    (x : Value) (l : List Int) (hx : IntsAt w x l) (hb : n + l.length ≤ 1099511627776) (hbase : base ≤ w.heap.size) :
    ∃ v' w', (Builtin.append_ #[t, t] ty #[v, x]).run P w = .ok v' w' ∧ w'.ownsRow base e 1 v' (n + l.length) (xs ++ l.map (Value.int .i64)) ∧ w.grownBy w' v.ownBlock := by
  obtain ⟨p, c, rfl, hc, hp⟩ := hx
  by_cases h0 : l.length = 0
  · have hl : l = [] := List.eq_nil_of_length_eq_zero h0
    subst hl
    have hcap : ∃ q cap, v = .slice q n cap ∧ n ≤ cap := by
      rcases hown.2 with ⟨rfl, rfl⟩ | ⟨g, cap, cur, rfl, _, _, hnc, _⟩
      · exact ⟨none, 0, rfl, Nat.le_refl _⟩
      · exact ⟨_, cap, rfl, hnc⟩
    obtain ⟨q, cap, rfl, hnc⟩ := hcap
    refine ⟨.slice q n cap, w, ?_, by simpa using hown, ⟨rfl, rfl, rfl, Nat.le_refl _, fun _ _ _ => rfl⟩⟩
    cases p <;> cases q <;> simp [Builtin.append_, run_underlying ht, sizeOf, typeInfo, hi, Builtin.lenOf, Builtin.firstCells, loadCells, loadCellsFrom, storeCells, hnc]
  · obtain ⟨b, o, rfl, hcell⟩ := hp (by omega)
    obtain ⟨v', w', h1, h2, h3, _⟩ := run_append_own (P := P) w base t ty e i z 1 8 ht hi hz hsize hby hzs (by decide) v n xs hown ⟨b, o, none⟩ l.length c (l.map (Value.int .i64)) (by rw [List.length_map]; omega)
      (fun j u hj => by
        have hj' : j < l.length := by
          have := (List.getElem?_eq_some_iff.mp hj).1
          rw [List.length_map] at this
          exact this
        have ha : (⟨b, o, none⟩ : Addr).add j = ⟨b, o + j, none⟩ := by unfold Addr.add; split <;> simp_all
        rw [ha, hcell j hj', ← hj]
        simp [List.getD, hj'])
      (intCells_one l) (by unfold maxLen; omega) (by omega) hbase
    exact ⟨v', w', h1, h2, h3⟩

section
variable {P : Program} (w : World)
theorem wpList_append_ints {ops : Array Oper} {rest : List Oper} {o : Oper} {a : Act} {Q : Exit → Act → World → Prop} (hgd : o.guard = none) (s x : Operand) (t : TypeId)
    (ho : o.op = .call { callee := .builtin .append, args := #[s, x], argTypes := #[t, t] })
    (base : Nat) (e : TypeId) (i : TypeInfo) (z : Value) (ht : P.underlying t = some (.slice e)) (hi : P.info? e = some i) (hz : i.zero = some z)
    (hsize : i.size = 1) (hby : i.bytes = 8) (hzs : z.cells.size = 1)
    (v : Value) (n : Nat) (xs : List Value) (hs : a.eval s = v) (hown : w.ownsRow base e 1 v n xs)
    (u : Value) (l : List Int) (hu : a.eval x = u) (hx : IntsAt w u l) (hb : n + l.length ≤ 1099511627776) (hbase : base ≤ w.heap.size)
    (h : ∀ v' w', w'.ownsRow base e 1 v' (n + l.length) (xs ++ l.map (Value.int .i64)) → w.grownBy w' v.ownBlock → wpList P ops Q rest (a.put o.dst v') w') :
    wpList P ops Q (o :: rest) a w := by
  refine wpList_plain hgd fun K hK => ?_
  obtain ⟨v', w', hr, h2, h3⟩ := run_append_ints (P := P) w base t o.type e i z ht hi hz hsize hby hzs v n xs hown u l hx hb hbase
  unfold Oper.wp execOp
  simp only [ho, resolve, invoke, builtin, Sem.run_bind, Sem.run_pure, Result.andThen_ok, List.map_toArray, List.map_cons, List.map_nil, hs, hu, hr]
  exact hK _ _ (h v' w' h2 h3)

theorem step_append_ints {ops : Array Oper} {o : Oper} {a : Act} {K : Act → World → Prop} {Q : Exit → Act → World → Prop} {E : Prop} (hgd : o.guard = none) (s x : Operand) (t : TypeId)
    (ho : o.op = .call { callee := .builtin .append, args := #[s, x], argTypes := #[t, t] })
    (base : Nat) (e : TypeId) (i : TypeInfo) (z : Value) (ht : P.underlying t = some (.slice e)) (hi : P.info? e = some i) (hz : i.zero = some z)
    (hsize : i.size = 1) (hby : i.bytes = 8) (hzs : z.cells.size = 1)
    (v : Value) (n : Nat) (xs : List Value) (hs : a.eval s = v) (hown : w.ownsRow base e 1 v n xs)
    (u : Value) (l : List Int) (hu : a.eval x = u) (hx : IntsAt w u l) (hb : n + l.length ≤ 1099511627776) (hbase : base ≤ w.heap.size)
    (h : ∀ v' w', w'.ownsRow base e 1 v' (n + l.length) (xs ++ l.map (Value.int .i64)) → w.grownBy w' v.ownBlock → K (a.put o.dst v') w') :
    if Region.wanted o (yielded ops a.tmps) = true then Oper.wp P o a w K Q else E := by
  have hw : Region.wanted o (yielded ops a.tmps) = true := by simp [Region.wanted, hgd]
  rw [if_pos hw]
  obtain ⟨v', w', hr, h2, h3⟩ := run_append_ints (P := P) w base t o.type e i z ht hi hz hsize hby hzs v n xs hown u l hx hb hbase
  unfold Oper.wp execOp
  simp only [ho, resolve, invoke, builtin, Sem.run_bind, Sem.run_pure, Result.andThen_ok, List.map_toArray, List.map_cons, List.map_nil, hs, hu, hr]
  exact h v' w' h2 h3
end


theorem ownsI_built (w : World) (B : Nat) (hB : B ≤ w.heap.size) (e : TypeId) : (w.alloc (.cells #[] e)).ownsRow B e 1 (.slice (some ⟨w.heap.size, 0, none⟩) 0 0) 0 [] :=
  ⟨rfl, .inr ⟨w.heap.size, 0, #[], rfl, hB, heap_alloc_new w _, Nat.le_refl _, by decide, rfl, rfl⟩⟩
theorem infoInt : (Tryz.prog.info? 3).map (fun i => (i.zero, i.size, i.bytes)) = some (some (.int .i64 0), 1, 8) := by kernel_rfl
theorem IntsNew.nil (B : Nat) (w : World) : IntsNew B w (.slice none 0 0) [] := World.ownsRow_nil _ _ _ _
theorem IntsNew.below {B : Nat} {w w' : World} {v : Value} {L : List Int} (h : IntsNew B w v L) (hb : Below w.heap.size w w') : IntsNew B w' v L := own_below h hb
theorem IntsNew.base {B C : Nat} {w : World} {v : Value} {L : List Int} (h : IntsNew B w v L) (hc : C ≤ B) : IntsNew C w v L := own_base h hc
theorem IntsNew.set {B : Nat} {w : World} {v : Value} {L : List Int} (h : IntsNew B w v L) (a : Addr) (u : Value) (hl : a.block < B) : IntsNew B (w.setCell a u) v L := own_set h a u hl
end Go.Proofs.YtlmbcclggaflaaaGreatDoor
namespace Go.Proofs.YtlmbcclggaflaaaGreatDoor
open Go Go.RowKit

theorem PlanAt.lt {w : World} {B : Nat} {A : Int} {d : Bool} {v : Value} (h : PlanAt w B A d v) : B < w.heap.size := World.block_lt_of_cell? w _ h.1.1
theorem PlanAt.other {w : World} {B C j : Nat} {A : Int} {d : Bool} {v : Value} (h : PlanAt w B A d v) (hn : B ≠ C) (x : Value) : PlanAt (w.setCell ⟨C, j, none⟩ x) B A d v :=
  h.block (Below.heap_setCell _ _ _ _ hn)
theorem PlanAt.set0 {w : World} {B : Nat} {A : Int} {d : Bool} {v : Value} (h : PlanAt w B A d v) (A' : Int) : PlanAt (w.setCell ⟨B, 0, none⟩ (.int .i64 A')) B A' d v := by
  obtain ⟨⟨h0, h1, h2⟩, h3⟩ := h
  have n1 : (⟨B, 1, none⟩ : Addr) ≠ ⟨B, 0, none⟩ := by intro he; injection he with e1 e2; omega
  have n2 : (⟨B, 2, none⟩ : Addr) ≠ ⟨B, 0, none⟩ := by intro he; injection he with e1 e2; omega
  exact ⟨⟨World.cell?_setCell_same w ⟨B, 0, none⟩ _ h0, by rw [World.cell?_setCell_other (h := Ne.symm n1)]; exact h1, by rw [World.cell?_setCell_other (h := Ne.symm n2)]; exact h2⟩, fun j => by rw [World.frozen?_setCell]; exact h3 j⟩
theorem results_plan_slot {fn : Func} {t u : Tmp} (h : fn.results = #[.cell t 38, .tmp u]) (tmps : Array Value) (w : World) (B : Nat) (A : Int) (d : Bool) (v x : Value) (hp : PlanAt w B A d v) (ht : tmps.getD t undef = .pointer (some ⟨B, 0, none⟩)) (hu : tmps.getD u undef = x) : (results fn tmps).run Tryz.prog w = .ok (.tuple #[planV A d v, x]) w := by
  obtain ⟨⟨h0, h1, h2⟩, _⟩ := hp
  have ht' : tmps[t]?.getD undef = .pointer (some ⟨B, 0, none⟩) := by simpa using ht
  have hu' : tmps[u]?.getD undef = x := by simpa using hu
  simp [results, h, ht', hu', asAddr]
  go_simp
  done
end Go.Proofs.YtlmbcclggaflaaaGreatDoor
namespace Go.Proofs.YtlmbcclggaflaaaGreatDoor
open Go Go.RowKit

open Classical in
noncomputable def pA (s : ByteArray) : Int := if goodP s then (numN (w3 s 0) : Int) else 0
open Classical in
noncomputable def pD (s : ByteArray) : Bool := if goodP s then decide (w3 s 1 = yS) else false
open Classical in
noncomputable def pL (s : ByteArray) : List Int := if goodP s then kepL s else []
open Classical in
noncomputable def pE (s : ByteArray) : Int := if goodP s then 0 else 8
theorem p_good {s : ByteArray} (h : goodP s) : pA s = (numN (w3 s 0) : Int) ∧ pD s = decide (w3 s 1 = yS) ∧ pL s = kepL s ∧ pE s = 0 := by
  unfold pA pD pL pE
  rw [if_pos h, if_pos h, if_pos h, if_pos h]
  exact ⟨rfl, rfl, rfl, rfl⟩
theorem p_bad {s : ByteArray} (h : ¬ goodP s) : pA s = 0 ∧ pD s = false ∧ pL s = [] ∧ pE s = 8 := by
  unfold pA pD pL pE
  rw [if_neg h, if_neg h, if_neg h, if_neg h]
  exact ⟨rfl, rfl, rfl, rfl⟩
/-- What Parse returns. -/
def parsePost (B : Nat) (s : ByteArray) (e : Ending) (w' : World) : Prop := ∃ v, e = .returned (.tuple #[planV (pA s) (pD s) v, .int .i64 (pE s)]) ∧ IntsNew B w' v (pL s)
theorem catch_idle (P Q : Nat) (w : World) :
    CallsD Tryz.prog 85 #[.pointer (some ⟨P, 0, none⟩), .pointer (some ⟨Q, 0, none⟩)] .returning w fun e u' w' => e = .returned (.tuple #[]) ∧ u' = .returning ∧ w' = w := by
  refine callsD_of_wpS Tryz.func85 rfl fun c₀ cs hu => ?_
  apply wpS_seq
  apply wpS_region
  simp [wpOpsS, go_sem, recoverD, hu, Tryz.ntmps85, Exit.thenS]
  refine wpS_of_wp ?_
  simp only [Array.replicate_succ, Array.replicate_zero, List.push_toArray, List.append_toArray, List.nil_append, List.cons_append, List.setIfInBounds_toArray, List.set_cons_succ, List.set_cons_zero]
  go_wp2_with fail
  cases c₀
  simp_all [bodyPostS, results, Tryz.results85]
theorem assert_mal (xT : TypeId) (w : World) : (Instr.typeAssert malV xT 128 true).run Tryz.prog w = .ok (.tuple #[.agg #[], .bool true]) w := by
  simp [Instr.typeAssert, run_underlying Tryz.underlying128, go_sem, Result.andThen]
set_option maxRecDepth 100000 in
theorem catch_mal (P Q : Nat) (x : Int) (w : World) (hp : PlanAt w P 0 false (.slice none 0 0)) (hq : w.cell? ⟨Q, 0, none⟩ = some (.int .i64 x)) (hf : w.frozen? ⟨Q, 0, none⟩ = false) (hn : P ≠ Q) :
    CallsD Tryz.prog 85 #[.pointer (some ⟨P, 0, none⟩), .pointer (some ⟨Q, 0, none⟩)] (.panicking [{ v := malV, recovered := false }]) w fun e u' w' => e = .returned (.tuple #[]) ∧ u' = .panicking [{ v := malV, recovered := true }] ∧ PlanAt w' P 0 false (.slice none 0 0) ∧ w'.cell? ⟨Q, 0, none⟩ = some (.int .i64 8) ∧ ∀ B, B ≤ w.heap.size → B ≤ P → B ≤ Q → ∀ w0, Below B w0 w → Below B w0 w' := by
  have a1 := (Below.refl w.heap.size w).alloc (Nat.le_refl _) (.cells #[] 128)
  have hp1 := hp.below a1
  have HP := Lib.hid hp1
  obtain ⟨⟨p0, p1, p2⟩, pf⟩ := hp1
  have pf0 := pf 0
  have pf1 := pf 1
  have pf2 := pf 2
  have hql := World.block_lt_of_cell? w _ hq
  have q0 := cell_kept hq a1
  have qf0 := free_kept hf hql a1
  have hp3 := HP.out.set 0 false (.slice none 0 0)
  have HP3 := Lib.hid hp3
  have n0 : (⟨Q, 0, none⟩ : Addr) ≠ ⟨P, 0, none⟩ := by intro he; injection he with e1 e2; omega
  have q3 : ((((w.alloc (.cells #[] 128)).setCell ⟨P, 0, none⟩ (.int .i64 0)).setCell ⟨P, 1, none⟩ (.bool false)).setCell ⟨P, 2, none⟩ (.slice none 0 0)).cell? ⟨Q, 0, none⟩ = some (.int .i64 x) := by
    refine (World.cell?_of_block ?_).trans q0
    exact set3_heap _ P Q (Ne.symm hn) _ _ _
  have qf3 : ((((w.alloc (.cells #[] 128)).setCell ⟨P, 0, none⟩ (.int .i64 0)).setCell ⟨P, 1, none⟩ (.bool false)).setCell ⟨P, 2, none⟩ (.slice none 0 0)).frozen? ⟨Q, 0, none⟩ = false := by
    refine (World.frozen?_of_block ?_).trans qf0
    exact set3_heap _ P Q (Ne.symm hn) _ _ _
  refine callsD_of_wpS Tryz.func85 rfl fun c₀ cs hu => ?_
  apply wpS_seq
  apply wpS_region
  simp [wpOpsS, go_sem, recoverD, hu, Tryz.ntmps85, Exit.thenS]
  refine wpS_of_wp ?_
  simp only [Array.replicate_succ, Array.replicate_zero, List.push_toArray, List.append_toArray, List.nil_append, List.cons_append, List.setIfInBounds_toArray, List.set_cons_succ, List.set_cons_zero]
  clear pf hp3 hq hf hp n0
  have hta := assert_mal
  go_wp2_with fail
  refine ⟨rfl, _, rfl, .tuple #[], by simp [results, Tryz.results85], rfl, rfl, ?_, ?_, ?_⟩
  · exact HP3.out.other hn _
  · exact World.cell?_setCell_same _ ⟨Q, 0, none⟩ _ q3
  · intro B hB h1 h2 w0 hb
    exact below_set (below_set (below_set (below_set (hb.alloc hB _) _ h1 0 _) _ h1 1 _) _ h1 2 _) _ h2 0 _
theorem results_parse {fn : Func} {t u : Tmp} (h : fn.results = #[.cell t 38, .cell u 31]) (tmps : Array Value) (w : World) (P Q : Nat) (A : Int) (d : Bool) (v : Value) (x : Int) (hp : PlanAt w P A d v) (hq : w.cell? ⟨Q, 0, none⟩ = some (.int .i64 x)) (ht : tmps.getD t undef = .pointer (some ⟨P, 0, none⟩)) (hu : tmps.getD u undef = .pointer (some ⟨Q, 0, none⟩)) : (results fn tmps).run Tryz.prog w = .ok (.tuple #[planV A d v, .int .i64 x]) w := by
  obtain ⟨⟨h0, h1, h2⟩, _⟩ := hp
  have ht' : tmps[t]?.getD undef = .pointer (some ⟨P, 0, none⟩) := by simpa using ht
  have hu' : tmps[u]?.getD undef = .pointer (some ⟨Q, 0, none⟩) := by simpa using hu
  simp [results, h, ht', hu', asAddr]
  go_simp
  done
set_option maxRecDepth 100000 in
set_option maxHeartbeats 2000000 in
theorem parse_any (s : ByteArray) (hs : s.size ≤ 1000000) (m : Int) (w : World) (ht : Tab w) (he : Errs w) (hm : w.cell? ⟨0, 0, none⟩ = some (.int .i64 m)) :
    Calls Tryz.prog 56 #[.string s] w fun e w' => parsePost w.heap.size s e w' ∧ Below w.heap.size w w' := by
  have hmf : ∀ (fn : Fn) (first cap : Array Value) (w : World), (Instr.makeFunc fn first cap).run Tryz.prog w = .ok (.func fn first cap) w := fun _ _ _ _ => rfl
  have c1 : Below w.heap.size w (w.alloc (.cells #[.int .i64 0, .bool false, .slice none 0 0] 38)) := (Below.refl _ _).alloc (Nat.le_refl _) _
  have a2 := (Below.refl (w.alloc (.cells #[.int .i64 0, .bool false, .slice none 0 0] 38)).heap.size (w.alloc (.cells #[.int .i64 0, .bool false, .slice none 0 0] 38))).alloc (Nat.le_refl _) (.cells #[.int .i64 0] 31)
  have c2 : Below w.heap.size w ((w.alloc (.cells #[.int .i64 0, .bool false, .slice none 0 0] 38)).alloc (.cells #[.int .i64 0] 31)) := c1.alloc c1.size _
  have hs1 : (w.alloc (.cells #[.int .i64 0, .bool false, .slice none 0 0] 38)).heap.size = w.heap.size + 1 := by simp
  have hs2 : ((w.alloc (.cells #[.int .i64 0, .bool false, .slice none 0 0] 38)).alloc (.cells #[.int .i64 0] 31)).heap.size = w.heap.size + 2 := by simp
  have HP := Lib.hid ((PlanAt.new w 0 false (.slice none 0 0) 38).below a2)
  have hq := new_cell (w := w.alloc (.cells #[.int .i64 0, .bool false, .slice none 0 0] 38)) #[.int .i64 0] 31 0 (.int .i64 0) rfl
  have hqf := new_free (w := w.alloc (.cells #[.int .i64 0, .bool false, .slice none 0 0] 38)) #[.int .i64 0] 31 0
  rw [hs1] at hq hqf
  have HT := Lib.hid (ht.below c2)
  have HE := Lib.hid (he.below c2)
  have HM := Lib.hid (cell_kept hm c2)
  have HS := Lib.hid hs
  have HQ := Lib.hid hq
  have HQF := Lib.hid hqf
  clear ht he hm hs hq hqf a2
  go_enter_defers Tryz.func56, Tryz.ntmps56
  go_wp2_with fail
  refine (read_any s HS.out m _ HT.out HE.out HM.out).mono ?_
  rw [hs2]
  generalize ((w.alloc (.cells #[.int .i64 0, .bool false, .slice none 0 0] 38)).alloc (.cells #[.int .i64 0] 31)) = w0 at *
  have hQ0 : w.heap.size + 1 < w0.heap.size := by omega
  rintro e w1 ⟨(⟨hg, v, rfl, hn⟩ | ⟨hg, rfl⟩), b1⟩
  · obtain ⟨p', c', rfl⟩ := ownsRow_slice hn
    have b2 : Below w0.heap.size w0 w1 := by rw [hs2]; exact b1
    have c3 := c2.trans (b2.mono c2.size)
    have hp1 := HP.out.below b2
    have hq1 := cell_kept HQ.out b2
    have hqf1 := free_kept HQF.out hQ0 b2
    have HP1 := Lib.hid hp1
    obtain ⟨⟨p0, p1, p2⟩, pf⟩ := hp1
    have pf0 := pf 0
    have pf1 := pf 1
    have pf2 := pf 2
    obtain ⟨A, hA⟩ : ∃ A : Int, (numN (w3 s 0) : Int) = A := ⟨_, rfl⟩
    obtain ⟨d, hd⟩ : ∃ d : Bool, decide (w3 s 1 = yS) = d := ⟨_, rfl⟩
    rw [hA, hd]
    have HG : Hid (pA s = A ∧ pD s = d ∧ pL s = kepL s ∧ pE s = 0) := by
      have h := p_good hg
      rw [hA, hd] at h
      exact h
    have q3 : (((w1.setCell ⟨w.heap.size, 0, none⟩ (.int .i64 A)).setCell ⟨w.heap.size, 1, none⟩ (.bool d)).setCell ⟨w.heap.size, 2, none⟩ (.slice p' (kepL s).length c')).cell? ⟨w.heap.size + 1, 0, none⟩ = some (.int .i64 0) :=
      (World.cell?_of_block (set3_heap w1 w.heap.size (w.heap.size + 1) (by omega) _ _ _)).trans hq1
    have qf3 : (((w1.setCell ⟨w.heap.size, 0, none⟩ (.int .i64 A)).setCell ⟨w.heap.size, 1, none⟩ (.bool d)).setCell ⟨w.heap.size, 2, none⟩ (.slice p' (kepL s).length c')).frozen? ⟨w.heap.size + 1, 0, none⟩ = false :=
      (World.frozen?_of_block (set3_heap w1 w.heap.size (w.heap.size + 1) (by omega) _ _ _)).trans hqf1
    have HP3 := Lib.hid ((HP1.out.set A d (.slice p' (kepL s).length c')).other (C := w.heap.size + 1) (j := 0) (by omega) (.int .i64 0))
    have HQ3 := Lib.hid (World.cell?_setCell_same _ ⟨w.heap.size + 1, 0, none⟩ (.int .i64 0) q3)
    have HN3 := Lib.hid (((((hn.set ⟨w.heap.size, 0, none⟩ (.int .i64 A) (by simp)).set ⟨w.heap.size, 1, none⟩ (.bool d) (by simp)).set ⟨w.heap.size, 2, none⟩ (.slice p' (kepL s).length c') (by simp)).set ⟨w.heap.size + 1, 0, none⟩ (.int .i64 0) (by simp)).base (C := w.heap.size) (by omega))
    have c4 := below_set (below_set (below_set (below_set c3 w.heap.size (by omega) 0 (.int .i64 A)) w.heap.size (by omega) 1 (.bool d)) w.heap.size (by omega) 2 (.slice p' (kepL s).length c')) (w.heap.size + 1) (by omega) 0 (.int .i64 0)
    clear pf b1 b2 hn hg hA hd HP1 c1 c2 c3
    go_wp2_with fail
    refine leaves_cons (f := 85) (args := #[.pointer (some ⟨w.heap.size, 0, none⟩), .pointer (some ⟨w.heap.size + 1, 0, none⟩)]) (by simp) (by simp [go_sem]) ?_
    refine (catch_idle w.heap.size (w.heap.size + 1) _).mono ?_
    rintro e u' w'' ⟨rfl, rfl, rfl⟩
    refine ⟨_, results_parse rfl _ _ w.heap.size (w.heap.size + 1) A d (.slice p' (kepL s).length c') 0 HP3.out HQ3.out rfl rfl, ⟨.slice p' (kepL s).length c', by rw [HG.out.1, HG.out.2.1, HG.out.2.2.2], by rw [HG.out.2.2.1]; exact HN3.out⟩, c4⟩
  · have b2 : Below w0.heap.size w0 w1 := by rw [hs2]; exact b1
    have c3 := c2.trans (b2.mono c2.size)
    have hp1 := HP.out.below b2
    have hq1 := cell_kept HQ.out b2
    have hqf1 := free_kept HQF.out hQ0 b2
    have HG := Lib.hid (p_bad hg)
    go_wp2_with fail
    refine leaves_cons (f := 85) (args := #[.pointer (some ⟨w.heap.size, 0, none⟩), .pointer (some ⟨w.heap.size + 1, 0, none⟩)]) (by simp) (by simp [go_sem]) ?_
    refine (catch_mal w.heap.size (w.heap.size + 1) 0 _ hp1 hq1 hqf1 (by omega)).mono ?_
    rintro e u' w'' ⟨rfl, rfl, hp2, hq2, hb⟩
    refine ⟨_, results_parse rfl _ _ w.heap.size (w.heap.size + 1) 0 false (.slice none 0 0) 8 hp2 hq2 rfl rfl, ⟨.slice none 0 0, by rw [HG.out.1, HG.out.2.1, HG.out.2.2.2], by rw [HG.out.2.2.1]; exact IntsNew.nil _ _⟩, hb w.heap.size c3.size (by omega) (by omega) w c3⟩
end Go.Proofs.YtlmbcclggaflaaaGreatDoor
namespace Go.Proofs.YtlmbcclggaflaaaGreatDoor
open Go Go.RowKit

/-- Whether two plans are the same. -/
def sameB (A : Int) (d : Bool) (L : List Int) (A' : Int) (d' : Bool) (L' : List Int) : Bool := decide (A = A') && (d == d') && decide (L = L')
theorem sameB_A {A : Int} {d : Bool} {L : List Int} {A' : Int} {d' : Bool} {L' : List Int} (h : ¬ A = A') : sameB A d L A' d' L' = false := by unfold sameB; rw [decide_eq_false h]; rfl
theorem sameB_d {A : Int} {d : Bool} {L : List Int} {A' : Int} {d' : Bool} {L' : List Int} (h : ¬ d = d') : sameB A d L A' d' L' = false := by unfold sameB; rw [beq_eq_false_iff_ne.2 h, Bool.and_false]; rfl
theorem sameB_L {A : Int} {d : Bool} {L : List Int} {A' : Int} {d' : Bool} {L' : List Int} (h : ¬ L = L') : sameB A d L A' d' L' = false := by unfold sameB; rw [decide_eq_false h, Bool.and_false]
theorem sameB_yes {A : Int} {d : Bool} {L : List Int} {A' : Int} {d' : Bool} {L' : List Int} (h1 : A = A') (h2 : d = d') (h3 : L = L') : sameB A d L A' d' L' = true := by subst h1 h2 h3; unfold sameB; simp
theorem list_getD {L L' : List Int} (hl : L.length = L'.length) (h : ∀ j, j < L.length → L.getD j 0 = L'.getD j 0) : L = L' := by
  refine List.ext_getElem hl fun j h1 h2 => ?_
  have := h j h1
  rw [List.getD, List.getD, List.getElem?_eq_getElem h1, List.getElem?_eq_getElem h2] at this
  exact this
set_option maxHeartbeats 4000000 in
theorem same_any (A : Int) (d : Bool) (v : Value) (L : List Int) (A' : Int) (d' : Bool) (v' : Value) (L' : List Int) (w : World) (hv : IntsAt w v L) (hv' : IntsAt w v' L') (hl : L.length ≤ 1099511627776) (hl2 : L'.length ≤ 1099511627776) :
    Calls Tryz.prog 35 #[planV A d v, planV A' d' v'] w fun e w' => e = .returned (.bool (sameB A d L A' d' L')) ∧ Below w.heap.size w w' := by
  have c1 : Below w.heap.size w (w.alloc (.cells #[.int .i64 A, .bool d, v] 38)) := (Below.refl _ _).alloc (Nat.le_refl _) _
  have c2 : Below w.heap.size w ((w.alloc (.cells #[.int .i64 A, .bool d, v] 38)).alloc (.cells #[.int .i64 A', .bool d', v'] 38)) := c1.alloc c1.size _
  have a2 : Below (w.alloc (.cells #[.int .i64 A, .bool d, v] 38)).heap.size (w.alloc (.cells #[.int .i64 A, .bool d, v] 38)) ((w.alloc (.cells #[.int .i64 A, .bool d, v] 38)).alloc (.cells #[.int .i64 A', .bool d', v'] 38)) := (Below.refl _ _).alloc (Nat.le_refl _) _
  have hs1 : (w.alloc (.cells #[.int .i64 A, .bool d, v] 38)).heap.size = w.heap.size + 1 := by simp
  obtain ⟨⟨p0, p1, p2⟩, pf⟩ := (PlanAt.new w A d v 38).below a2
  have hq := PlanAt.new (w.alloc (.cells #[.int .i64 A, .bool d, v] 38)) A' d' v' 38
  rw [hs1] at hq
  obtain ⟨⟨q0, q1, q2⟩, qf⟩ := hq
  have HV := Lib.hid (hv.below c2)
  have HV' := Lib.hid (hv'.below c2)
  obtain ⟨p, c, rfl, _, _⟩ := hv
  obtain ⟨p', c', rfl, _, _⟩ := hv'
  clear pf qf a2 c1
  by_cases hA : A = A'
  · have dA : (A != A') = false := by rw [bne_eq_false_iff_eq]; exact hA
    by_cases hd : d = d'
    · subst hd
      by_cases hL : L.length = L'.length
      · have dL : ((L.length : Int) != (L'.length : Int)) = false := by rw [bne_eq_false_iff_eq, hL]
        have HL := Lib.hid hL
        have HA := Lib.hid hA
        have P2 := Lib.hid p2
        have Q2 := Lib.hid q2
        clear hA hL
        go_enter Tryz.func35, Tryz.ntmps35
        go_wp2_with fail
        generalize ((w.alloc (.cells #[.int .i64 A, .bool d, .slice p L.length c] 38)).alloc (.cells #[.int .i64 A', .bool d, .slice p' L'.length c'] 38)) = w0 at *
        clear p0 p1 q0 q1 p2 q2 dA dL
        go_loopw [5] (fun vi wr => ∃ i : Nat, i ≤ L.length ∧ vi = .int .i64 i ∧ Hid (∀ j, j < i → L.getD j 0 = L'.getD j 0) ∧ Below w0.heap.size w0 wr) (fun vi _ => L.length - (intOf vi).toNat)
        case atStart => exact ⟨0, Nat.zero_le _, rfl, fun j hj => absurd hj (Nat.not_lt_zero _), Below.refl _ _⟩
        case round =>
          obtain ⟨i, hi, rfl, hall, c3⟩ := hrel
          have p2 := cell_kept P2.out c3
          have q2 := cell_kept Q2.out c3
          have cw := c2.trans (c3.mono c2.size)
          by_cases hlt : i < L.length
          · have hlt' : i < L'.length := by rw [← HL.out]; exact hlt
            have hv1 := HV.out.below c3
            have hv2 := HV'.out.below c3
            obtain ⟨_, _, he, _, h1⟩ := hv1
            injection he with e1 _ e2
            subst e1 e2
            obtain ⟨b1, o1, rfl, g1⟩ := h1 (by omega)
            obtain ⟨_, _, he, _, h2⟩ := hv2
            injection he with e1 _ e2
            subst e1 e2
            obtain ⟨b2, o2, rfl, g2⟩ := h2 (by omega)
            have x1 := g1 i hlt
            have x2 := g2 i hlt'
            obtain ⟨x, hx⟩ : ∃ x, L.getD i 0 = x := ⟨_, rfl⟩
            obtain ⟨y, hy⟩ : ∃ y, L'.getD i 0 = y := ⟨_, rfl⟩
            rw [hx] at x1
            rw [hy] at x2
            have HX := Lib.hid hx
            have HY := Lib.hid hy
            clear g1 g2 hx hy
            by_cases hxy : x = y
            · have dx : (x != y) = false := by rw [bne_eq_false_iff_eq]; exact hxy
              have HXY := Lib.hid hxy
              clear hxy
              go_wp2_with fail
              go_region
              go_wp2_with fail
              go_roundw
              case rel =>
                refine ⟨i + 1, by omega, by go_num, fun j hj => ?_, c3.drew⟩
                rcases Nat.lt_or_ge j i with h | h
                · exact hall.out j h
                · obtain rfl : j = i := by omega
                  rw [HX.out, HY.out, HXY.out]
              case measure => simp [intOf]; omega
            · have dx : (x != y) = true := by rw [bne_iff_ne]; exact hxy
              have HS : Hid (sameB A d L A' d L' = false) := sameB_L fun h => hxy (by rw [← HX.out, ← HY.out, h])
              clear hxy
              go_wp2_with fail
              go_region
              go_wp2_with fail
              go_ret
              exact ⟨by rw [HS.out]; rfl, cw.drew⟩
          · obtain rfl : i = L.length := by omega
            have HS : Hid (sameB A d L A' d L' = true) := sameB_yes HA.out rfl (list_getD HL.out hall.out)
            clear hlt hi
            go_wp2_with fail
            go_ret
            exact ⟨by rw [HS.out]; rfl, cw⟩
      · have dL : ((L.length : Int) != (L'.length : Int)) = true := by rw [bne_iff_ne]; omega
        have HS : Hid (sameB A d L A' d L' = false) := sameB_L fun h => hL (by rw [h])
        clear hA hL
        clear hl hl2
        go_enter Tryz.func35, Tryz.ntmps35
        go_wp2_with fail
        go_ret
        exact ⟨by rw [HS.out]; rfl, c2⟩
    · cases d
      · cases d'
        · exact absurd rfl hd
        · have HS : Hid (sameB A false L A' true L' = false) := sameB_d hd
          clear hA hd
          clear hl hl2
          go_enter Tryz.func35, Tryz.ntmps35
          go_wp2_with fail
          go_ret
          exact ⟨by rw [HS.out]; rfl, c2⟩
      · cases d'
        · have HS : Hid (sameB A true L A' false L' = false) := sameB_d hd
          clear hA hd
          clear hl hl2
          go_enter Tryz.func35, Tryz.ntmps35
          go_wp2_with fail
          go_ret
          exact ⟨by rw [HS.out]; rfl, c2⟩
        · exact absurd rfl hd
  · have dA : (A != A') = true := by rw [bne_iff_ne]; exact hA
    have HS : Hid (sameB A d L A' d' L' = false) := sameB_A hA
    clear hA
    clear hl hl2
    go_enter Tryz.func35, Tryz.ntmps35
    go_wp2_with fail
    go_ret
    exact ⟨by rw [HS.out]; rfl, c2⟩
end Go.Proofs.YtlmbcclggaflaaaGreatDoor
namespace Go.Proofs.YtlmbcclggaflaaaGreatDoor
open Go Go.RowKit

def UB (i n : Nat) : Prop := n < 10 ^ (min i 7)
theorem UB.start : UB 0 0 := by unfold UB; decide
theorem UB.zero (i : Nat) : UB i 0 := Nat.pow_pos (by decide)
theorem UB.le {i n : Nat} (h : UB i n) : n < 10000000 := by
  unfold UB at h
  exact Nat.lt_of_lt_of_le h (Nat.le_trans (Nat.pow_le_pow_right (by decide) (Nat.min_le_right i 7)) (by decide))
theorem UB.step {i n d : Nat} (h : UB i n) (hi : i < 7) (hd : d ≤ 9) : UB (i + 1) (n * 10 + d) := by
  unfold UB at *
  rw [Nat.min_eq_left (by omega)] at h
  rw [Nat.min_eq_left (by omega), Nat.pow_succ]
  omega
theorem drop_at (s : ByteArray) (i : Nat) (h : i < s.size) (x : UInt8) (hx : s.data.toList.getD i 0 = x) : s.data.toList.drop i = x :: s.data.toList.drop (i + 1) := by
  have hl : i < s.data.toList.length := by rw [str_len]; exact h
  rw [List.drop_eq_getElem_cons hl]
  rw [List.getD, List.getElem?_eq_getElem hl] at hx
  rw [← hx]
  rfl
theorem ext_from (s : ByteArray) (i : Nat) : s.extract i s.size = pack (s.data.toList.drop i) := by
  rw [← data_pack (s.extract i s.size), Lib.extract_data]
  congr 1
  rw [← str_len]
  exact List.take_of_length_le (by simp)
set_option maxRecDepth 100000 in
set_option maxHeartbeats 4000000 in
theorem until_any (s : ByteArray) (hs : s.size ≤ 1000000) (c : UInt8) (w : World) :
    Calls Tryz.prog 103 #[.string s, .int .u8 (c.toNat : Int)] w fun e w' => e = .returned (.tuple #[.int .i64 ((utL c 0 0 s.data.toList).1 : Int), .string (pack (utL c 0 0 s.data.toList).2)]) ∧ Below w.heap.size w w' := by
  obtain ⟨N, R, hNR⟩ : ∃ N R, utL c 0 0 s.data.toList = (N, R) := ⟨_, _, rfl⟩
  rw [hNR]
  have HU := Lib.hid hNR
  clear hNR
  have HL := Lib.hid (str_len s)
  go_enter Tryz.func103, Tryz.ntmps103
  go_wp2_with fail
  go_loopw [6, 7] (fun vn vi wr => ∃ i n : Nat, i ≤ s.size ∧ vn = .int .i64 n ∧ vi = .int .i64 i ∧ Hid (UB i n) ∧ Hid (utL c i n (s.data.toList.drop i) = (N, R)) ∧ Hid (wr = w)) (fun _ vi _ => s.size - (intOf vi).toNat)
  case atStart => exact ⟨0, 0, Nat.zero_le _, rfl, rfl, UB.start, HU, rfl⟩
  case round =>
    obtain ⟨i, n, hi, rfl, rfl, hB, hU, hw⟩ := hrel
    obtain rfl := hw.out
    by_cases hlt : i < s.size
    · obtain ⟨x, hx⟩ : ∃ x, s.data.toList.getD i 0 = x := ⟨_, rfl⟩
      have hix := run_str_at (P := Tryz.prog) s 9 Tryz.underlying9 .i64 (i : Int) i rfl hlt x hx.symm
      have hst := hU.out
      rw [drop_at s i hlt x hx, utL] at hst
      have hn7 := hB.out.le
      by_cases hxc : x = c
      · rw [if_pos hxc] at hst
        injection hst with e1 e2
        have d1 : ((x.toNat : Int) == (c.toNat : Int)) = true := by rw [hxc]; exact beq_self_eq_true _
        have isl : ∀ wx, (Instr.slice 9 (.string s) (some (.int .i64 ((i : Int) + 1))) none none).run Tryz.prog wx = .ok (.string (pack R)) wx := fun wx => by
          rw [run_slice_string_l wx 9 s Tryz.underlying9 .i64 ((i : Int) + 1) (by omega) (by omega), show ((i : Int) + 1).toNat = i + 1 by omega, ext_from, e2]
        have hsum : IntKind.i64.wrap ((i : Int) + 1) = (i : Int) + 1 := IntWalk.i64_in _ (by omega)
        have HN := Lib.hid e1
        clear e1 e2 hx hxc hU
        go_wp2_with fail
        go_quiet (fail)
        have hb2 : Below wr.heap.size wr (wr.drewN nq) := ⟨rfl, rfl, rfl, Nat.le_refl _, fun _ _ => rfl⟩
        generalize wr.drewN nq = w2 at *
        go_wp2_with fail
        go_ret2
        exact ⟨by rw [← HN.out]; rfl, hb2⟩
      · rw [if_neg hxc] at hst
        have d1 : ((x.toNat : Int) == (c.toNat : Int)) = false := by
          rw [beq_eq_false_iff_ne]
          intro e2
          exact hxc (UInt8.toNat_inj.mp (by omega))
        have hsum : IntKind.i64.wrap ((i : Int) + 1) = (i : Int) + 1 := IntWalk.i64_in _ (by omega)
        rcases (show (x.toNat < 48) ∨ (48 ≤ x.toNat ∧ 57 < x.toNat) ∨ (48 ≤ x.toNat ∧ x.toNat ≤ 57 ∧ 7 ≤ i) ∨ (48 ≤ x.toNat ∧ x.toNat ≤ 57 ∧ i < 7) by omega) with h | ⟨h, h'⟩ | ⟨h, h', h7⟩ | ⟨h, h', h7⟩
        · have d2 : decide ((x.toNat : Int) < 48) = true := by rw [decide_eq_true_iff]; omega
          rw [if_pos (Or.inl h)] at hst
          have HST := Lib.hid hst
          clear hst hx hxc hU h
          go_wp2_with fail
          go_roundw
          case rel => exact ⟨i + 1, 0, by omega, rfl, by go_num, UB.zero _, HST, trivial⟩
          case measure => simp [intOf]; omega
        · have d2 : decide ((x.toNat : Int) < 48) = false := by rw [decide_eq_false_iff_not]; omega
          have d3 : decide (57 < (x.toNat : Int)) = true := by rw [decide_eq_true_iff]; omega
          rw [if_pos (Or.inr (Or.inl h'))] at hst
          have HST := Lib.hid hst
          clear hst hx hxc hU h h'
          go_wp2_with fail
          go_roundw
          case rel => exact ⟨i + 1, 0, by omega, rfl, by go_num, UB.zero _, HST, trivial⟩
          case measure => simp [intOf]; omega
        · have d2 : decide ((x.toNat : Int) < 48) = false := by rw [decide_eq_false_iff_not]; omega
          have d3 : decide (57 < (x.toNat : Int)) = false := by rw [decide_eq_false_iff_not]; omega
          have d4 : decide (7 ≤ (i : Int)) = true := by rw [decide_eq_true_iff]; omega
          rw [if_pos (Or.inr (Or.inr h7))] at hst
          have HST := Lib.hid hst
          clear hst hx hxc hU h h' h7
          go_wp2_with fail
          go_roundw
          case rel => exact ⟨i + 1, 0, by omega, rfl, by go_num, UB.zero _, HST, trivial⟩
          case measure => simp [intOf]; omega
        · have d2 : decide ((x.toNat : Int) < 48) = false := by rw [decide_eq_false_iff_not]; omega
          have d3 : decide (57 < (x.toNat : Int)) = false := by rw [decide_eq_false_iff_not]; omega
          have d4 : decide (7 ≤ (i : Int)) = false := by rw [decide_eq_false_iff_not]; omega
          rw [if_neg (by omega)] at hst
          obtain ⟨d, hd⟩ : ∃ d, x.toNat - 48 = d := ⟨_, rfl⟩
          rw [hd] at hst
          have HB2 := Lib.hid (hB.out.step (d := d) h7 (by omega))
          have HST := Lib.hid hst
          have w1 : IntKind.u8.wrap ((x.toNat : Int) - 48) = (d : Int) := by rw [IntKind.wrap_u8]; omega
          have w2 : IntKind.i64.wrap (d : Int) = (d : Int) := IntWalk.i64_in _ (by omega)
          have w3 : IntKind.i64.wrap ((n : Int) * 10) = (n : Int) * 10 := IntWalk.i64_in _ (by omega)
          have w4 : IntKind.i64.wrap ((n : Int) * 10 + (d : Int)) = (n : Int) * 10 + (d : Int) := IntWalk.i64_in _ (by omega)
          clear hst hx hxc hU h h' h7 hd
          go_wp2_with fail
          go_roundw
          case rel => exact ⟨i + 1, n * 10 + d, by omega, by go_num, by go_num, HB2, HST, trivial⟩
          case measure => simp [intOf]; omega
    · obtain rfl : i = s.size := by omega
      have hst := hU.out
      rw [List.drop_eq_nil_of_le (by rw [HL.out]; exact Nat.le_refl _), utL] at hst
      injection hst with e1 e2
      have HN := Lib.hid e1
      have HR : Hid ((⟨#[]⟩ : ByteArray) = pack R) := by show _ = _; rw [← e2]; rfl
      clear hlt hi e1 e2 hU
      go_wp2_with fail
      go_ret2
      exact ⟨by rw [← HN.out, ← HR.out]; rfl, Below.refl _ _⟩
end Go.Proofs.YtlmbcclggaflaaaGreatDoor
namespace Go.Proofs.YtlmbcclggaflaaaGreatDoor
open Go Go.RowKit

set_option maxRecDepth 20000 in
set_option maxHeartbeats 1000000 in
theorem rdig39_any (k : Nat) : ∀ (n : Nat) (w : World), n < k → Hid (n ≤ 1000000000) →
    Calls Tryz.prog 106 #[.int .i64 (n : Int)] w fun e w' => e = .returned (.string ⟨(Lib.decDigits n).toArray⟩) ∧ Below w.heap.size w w' := by
  induction k with
  | zero => intro n w h; omega
  | succ k ih =>
    intro n w hk hn0
    have hn := hn0.out
    by_cases h10 : n < 10
    · have HD := Lib.hid (hexD_dec n h10)
      have hq := hexD_nat n h10
      have hnew : (w.alloc (.cells #[.int .u8 (48 + (n : Int))] 5)).cell? ⟨w.heap.size, 0, none⟩ = some (.int .u8 ((hexD n).toNat : Int)) := by rw [hq]; exact new_cell _ _ 0 _ rfl
      have hcv := conv1 (w.alloc (.cells #[.int .u8 (48 + (n : Int))] 5)) w.heap.size (hexD n) hnew
      have c1 : Below w.heap.size w (w.alloc (.cells #[.int .u8 (48 + (n : Int))] 5)) := (Below.refl _ _).alloc (Nat.le_refl _) _
      have d10 : decide ((n : Int) < 10) = true := by rw [decide_eq_true_iff]; omega
      have w1 : IntKind.i64.wrap (48 + (n : Int)) = 48 + (n : Int) := IntWalk.i64_in _ (by omega)
      have w2 : IntKind.u8.wrap (48 + (n : Int)) = 48 + (n : Int) := by rw [IntKind.wrap_u8]; omega
      clear ih hk hn hnew hq h10 hn0
      go_enter Tryz.func106, Tryz.ntmps106
      go_wp2_with fail
      go_ret
      exact ⟨by rw [HD.out]; rfl, c1⟩
    · have IH := Lib.hid ih; clear ih
      have HQ : Hid (Lib.decDigits n = Lib.decDigits (n / 10) ++ [hexD (n % 10)]) := by
        show _ = _
        rw [← hexD_dec (n % 10) (by omega), Lib.decDigits, dif_neg h10, Lib.decDigits.eq_def (n % 10), dif_pos (by omega)]
      have hl := Lib.decDigits_length (n / 10)
      have hl2 : (Lib.decDigits (n / 10)).length ≤ 20 := by
        rw [hl]
        have := Lib.numDigits_eq (n / 10) (by omega) (by omega)
        split at this <;> omega
      clear hl
      generalize hA : Lib.decDigits (n / 10) = A at *
      have HA := Lib.hid hA; clear hA
      have w4 : (n : Int).tmod 10 = ((n % 10 : Nat) : Int) := by rw [Int.tmod_eq_emod_of_nonneg (by omega)]; rfl
      have w5 : (n : Int).tdiv 10 = ((n / 10 : Nat) : Int) := by rw [Int.tdiv_eq_ediv_of_nonneg (by omega)]; rfl
      obtain ⟨q, hq⟩ : ∃ q, n / 10 = q := ⟨_, rfl⟩
      obtain ⟨r, hr⟩ : ∃ r, n % 10 = r := ⟨_, rfl⟩
      rw [hr] at w4
      rw [hq] at w5
      have w4' : (n : Int) % 10 = (r : Int) := by omega
      have w5' : (n : Int) / 10 = (q : Int) := by omega
      have wa : IntKind.i64.wrap ((n : Int) / 10) = (q : Int) := by rw [w5']; exact IntWalk.i64_in _ (by omega)
      have wb : IntKind.i64.wrap ((n : Int) % 10) = (r : Int) := by rw [w4']; exact IntWalk.i64_in _ (by omega)
      have w6 : IntKind.i64.wrap (q : Int) = (q : Int) := IntWalk.i64_in _ (by omega)
      have w7 : IntKind.i64.wrap (r : Int) = (r : Int) := IntWalk.i64_in _ (by omega)
      have w8 : IntKind.i64.wrap (48 + (r : Int)) = 48 + (r : Int) := IntWalk.i64_in _ (by omega)
      have w9 : IntKind.u8.wrap (48 + (r : Int)) = 48 + (r : Int) := by rw [IntKind.wrap_u8]; omega
      have hq2 : q ≤ 100000000 := by omega
      have hr2 : r < 10 := by omega
      have HN : Hid (q < k) := by show q < k; omega
      have HN9 : Hid (q ≤ 1000000000) := by show q ≤ 1000000000; omega
      have d10 : decide ((n : Int) < 10) = false := by rw [decide_eq_false_iff_not]; omega
      have HqA : Hid (Lib.decDigits q = A) := by show _ = _; rw [← hq]; exact HA.out
      have HQ2 : Hid (Lib.decDigits n = A ++ [hexD r]) := by show _ = _; rw [HQ.out, hr]
      have hnat := hexD_nat r hr2
      have HC : Hid (∀ (W : World) (B : Nat), W.cell? ⟨B, 0, none⟩ = some (.int .u8 (48 + (r : Int))) → (convert 23 9 (.slice (some ⟨B, 0, none⟩) 1 1)).run Tryz.prog W = .ok (.string ⟨#[hexD r]⟩) W) := by
        intro W B h
        exact conv1 W B (hexD r) (by rw [hnat]; exact h)
      clear hk hn hq hr HQ HA hnat h10 hn0 hq2
      go_enter Tryz.func106, Tryz.ntmps106
      go_wp2_with fail
      go_cut [2] from 10 to 19 (fun s2 wx => s2 = .string ((⟨A.toArray⟩ : ByteArray) ++ ⟨#[hexD r]⟩) ∧ Below w.heap.size w wx)
      case first =>
        have c0 : Below w.heap.size w (w.alloc (.cells #[.int .u8 (48 + (r : Int))] 5)).drew := ((Below.refl _ _).alloc (Nat.le_refl _) _).drew
        have hn0 : (w.alloc (.cells #[.int .u8 (48 + (r : Int))] 5)).drew.cell? ⟨w.heap.size, 0, none⟩ = some (.int .u8 (48 + (r : Int))) := new_cell _ _ 0 _ rfl
        have hv0 := HC.out _ _ hn0
        go_region_with (go_at_call 106; refine (IH.out q _ HN.out HN9).mono ?_; rw [HqA.out]; rintro e w2 ⟨rfl, b1⟩; have hvA := HC.out (w2.alloc (.cells #[.int .u8 (48 + (r : Int))] 5)) w2.heap.size (new_cell _ _ 0 _ rfl); first | (have hvB := HC.out w2 w.heap.size (cell_kept hn0 b1); have cB := c0.trans (b1.mono c0.size)) | (have cB := (Below.refl w.heap.size w).drew.trans b1; have cA := cB.alloc cB.size (.cells #[.int .u8 (48 + (r : Int))] 5)))
        all_goals (go_wp2_with fail; go_meet; first | exact ⟨rfl, cA⟩ | exact ⟨rfl, cB⟩)
      case rest =>
        obtain ⟨rfl, c1⟩ := hcut
        go_wp2_with fail
        go_ret
        exact ⟨by rw [HQ2.out]; show Ending.returned (.string _) = _; rw [str_append], c1⟩
/-- What is ahead of place i, and what is behind it. -/
theorem ext_to (s : ByteArray) (i : Nat) : s.extract 0 i = pack (s.data.toList.take i) := by
  rw [← data_pack (s.extract 0 i), extract_take]
theorem str_take1 (s : ByteArray) (i : Nat) (h : i < s.size) (x : UInt8) (hx : s.data.toList.getD i 0 = x) : s.data.toList.take i ++ [x] = s.data.toList.take (i + 1) := by
  have hl : i < s.data.toList.length := by rw [str_len]; exact h
  rw [List.take_succ_eq_append_getElem hl]
  rw [List.getD, List.getElem?_eq_getElem hl] at hx
  rw [← hx]
  rfl
set_option maxRecDepth 100000 in
set_option maxHeartbeats 4000000 in
theorem rcut_any (s : ByteArray) (hs : s.size ≤ 1000000) (w : World) :
    Calls Tryz.prog 71 #[.string s] w fun e w' => e = .returned (.tuple #[.string (pack (hdL 32 s.data.toList)), .string (pack (tlL 32 s.data.toList))]) ∧ Below w.heap.size w w' := by
  obtain ⟨X, hX⟩ : ∃ X, hdL 32 s.data.toList = X := ⟨_, rfl⟩
  obtain ⟨R, hR⟩ : ∃ R, tlL 32 s.data.toList = R := ⟨_, rfl⟩
  rw [hX, hR]
  have HX := Lib.hid hX
  have HR := Lib.hid hR
  clear hX hR
  have HL := Lib.hid (str_len s)
  go_enter Tryz.func71, Tryz.ntmps71
  go_wp2_with fail
  go_loopw [4] (fun vi wr => ∃ i : Nat, i ≤ s.size ∧ vi = .int .i64 i ∧ Hid (s.data.toList.take i ++ hdL 32 (s.data.toList.drop i) = X ∧ tlL 32 (s.data.toList.drop i) = R) ∧ Hid (wr = w)) (fun vi _ => s.size - (intOf vi).toNat)
  case atStart => exact ⟨0, Nat.zero_le _, rfl, ⟨HX.out, HR.out⟩, rfl⟩
  case round =>
    obtain ⟨i, hi, rfl, hU, hw⟩ := hrel
    obtain rfl := hw.out
    by_cases hlt : i < s.size
    · obtain ⟨x, hx⟩ : ∃ x, s.data.toList.getD i 0 = x := ⟨_, rfl⟩
      have hix := run_str_at (P := Tryz.prog) s 9 Tryz.underlying9 .i64 (i : Int) i rfl hlt x hx.symm
      obtain ⟨h1, h2⟩ := hU.out
      have hd := drop_at s i hlt x hx
      rw [hd, hdL] at h1
      rw [hd, tlL] at h2
      by_cases hxc : x = 32
      · rw [if_pos hxc, List.append_nil] at h1
        rw [if_pos hxc] at h2
        have d1 : ((x.toNat : Int) == 32) = true := by rw [hxc]; rfl
        have is0 : ∀ wx, (Instr.slice 9 (.string s) none (some (.int .i64 (i : Int))) none).run Tryz.prog wx = .ok (.string (pack X)) wx := fun wx => by
          rw [run_slice_string_h wx 9 s Tryz.underlying9 .i64 (i : Int) (by omega) (by omega), show ((i : Int)).toNat = i by omega, ext_to, h1]
        have is1 : ∀ wx, (Instr.slice 9 (.string s) (some (.int .i64 ((i : Int) + 1))) none none).run Tryz.prog wx = .ok (.string (pack R)) wx := fun wx => by
          rw [run_slice_string_l wx 9 s Tryz.underlying9 .i64 ((i : Int) + 1) (by omega) (by omega), show ((i : Int) + 1).toNat = i + 1 by omega, ext_from, h2]
        have hsum : IntKind.i64.wrap ((i : Int) + 1) = (i : Int) + 1 := IntWalk.i64_in _ (by omega)
        clear h1 h2 hd hx hxc hU
        go_wp2_with fail
        go_quiet (fail)
        have hb2 : Below wr.heap.size wr (wr.drewN nq) := ⟨rfl, rfl, rfl, Nat.le_refl _, fun _ _ => rfl⟩
        generalize wr.drewN nq = w2 at *
        go_wp2_with fail
        go_ret2
        exact ⟨rfl, hb2⟩
      · rw [if_neg hxc] at h1 h2
        have d1 : ((x.toNat : Int) == 32) = false := by
          rw [beq_eq_false_iff_ne]
          intro e2
          exact hxc (UInt8.toNat_inj.mp (by show x.toNat = 32; omega))
        have hsum : IntKind.i64.wrap ((i : Int) + 1) = (i : Int) + 1 := IntWalk.i64_in _ (by omega)
        have HST : Hid (s.data.toList.take (i + 1) ++ hdL 32 (s.data.toList.drop (i + 1)) = X ∧ tlL 32 (s.data.toList.drop (i + 1)) = R) := by
          refine ⟨?_, h2⟩
          rw [← h1, ← str_take1 s i hlt x hx]
          simp
        clear h1 h2 hd hx hxc hU
        go_wp2_with fail
        go_roundw
        case rel => exact ⟨i + 1, by omega, by go_num, HST, trivial⟩
        case measure => simp [intOf]; omega
    · obtain rfl : i = s.size := by omega
      obtain ⟨h1, h2⟩ := hU.out
      rw [List.drop_eq_nil_of_le (by rw [HL.out]; exact Nat.le_refl _)] at h1 h2
      rw [List.take_of_length_le (by rw [HL.out]; exact Nat.le_refl _)] at h1
      have HA : Hid (s = pack X) := by
        show _ = _
        rw [← h1, hdL, List.append_nil]
        exact (data_pack s).symm
      have HB : Hid ((⟨#[]⟩ : ByteArray) = pack R) := by show _ = _; rw [← h2]; rfl
      clear hlt hi h1 h2 hU
      go_wp2_with fail
      go_ret2
      exact ⟨by rw [← HA.out, ← HB.out]; rfl, Below.refl _ _⟩
end Go.Proofs.YtlmbcclggaflaaaGreatDoor
namespace Go.Proofs.YtlmbcclggaflaaaGreatDoor
open Go Go.RowKit
open Classical

def polA (r : List UInt8) : Int := if r = polL 1 then 1 else if r = polL 2 then 2 else 0
/-- What the program makes of bytes, ahead of its comparison. -/
noncomputable def extP (l : List UInt8) : OpD :=
  if kindL (hdL 32 l) = 1 then ⟨1, 0, 0, pack (hdL 32 (tlL 32 l)), pack (parseV (tlL 32 (tlL 32 l))).1⟩
  else if kindL (hdL 32 l) = 2 then ⟨2, 0, 0, pack (tlL 32 l), eB⟩
  else if kindL (hdL 32 l) = 3 then ⟨3, 0, 0, pack (tlL 32 l), eB⟩
  else if kindL (hdL 32 l) = 6 then ⟨6, polA (tlL 32 l), 0, eB, eB⟩
  else if kindL (hdL 32 l) = 7 then (if goodP (pack (tlL 32 l)) then ⟨7, (numN (w3 (pack (tlL 32 l)) 0) : Int), if w3 (pack (tlL 32 l)) 1 = yS then 1 else 0, eB, pack (keepT (kepL (pack (tlL 32 l))))⟩ else ⟨7, 0, 0, eB, eB⟩)
  else ⟨kindL (hdL 32 l), 0, 0, eB, eB⟩
/-- What the reference makes of bytes, ahead of its comparison. -/
noncomputable def extR (l : List UInt8) : OpD :=
  if kindL (hdL 32 l) = 7 then ⟨7, pA (pack (tlL 32 l)), if pD (pack (tlL 32 l)) = true then 1 else 0, eB, pack (tlL 32 (tlL 32 (tlL 32 l)))⟩ else extP l
/-- The only operation with this text, if there is one, is o. -/
def Ext (l : List UInt8) (o : OpD) : Prop := ∀ o', opGood o' → opT o' = l → o = o'
theorem ext_kind {l : List UInt8} {o : OpD} (h : opGood o) (ht : opT o = l) : kindL (hdL 32 l) = o.kind ∧ tlL 32 l = (opR o).drop 1 := by
  obtain ⟨h1, h2⟩ := opT_head o
  obtain ⟨k0, k1⟩ := good_kind h
  rw [← ht, h1, h2]
  exact ⟨kind_word _ k0 k1, rfl⟩
theorem ext_none {l : List UInt8} (h : kindL (hdL 32 l) = 0) (o : OpD) : Ext l o := by
  intro o' hg ht
  have := (ext_kind hg ht).1
  have := good_kind hg
  omega
theorem op_mk (o : OpD) (k a b : Int) (x v : ByteArray) (h0 : o.kind = k) (h1 : o.a = a) (h2 : o.b = b) (h3 : o.key = x) (h4 : o.val = v) : (⟨k, a, b, x, v⟩ : OpD) = o := by
  subst h0 h1 h2 h3 h4
  rfl
theorem pack_of (s : ByteArray) : pack s.data.toList = s := data_pack s
theorem extP_ext (l : List UInt8) : Ext l (extP l) := by
  intro o hg ht
  obtain ⟨hk, hr⟩ := ext_kind hg ht
  unfold extP
  rw [hk, hr]
  rcases hg with ⟨h0, h1, h2, h3, h4⟩ | ⟨h0, h1, h2, h3, h4⟩ | ⟨h0, h1, h2, h3, h4⟩ | ⟨h0, h1, h2, h3, h4⟩ | ⟨h0, h1, h2, L, h3, h4⟩
  · rw [if_pos h0]
    have e : (opR o).drop 1 = o.key.data.toList ++ 32 :: (textV o.val.data.toList).1 := by unfold opR; rw [if_pos h0]; rfl
    obtain ⟨e1, e2⟩ := hd_at 32 o.key.data.toList (textV o.val.data.toList).1 (key_no h3)
    rw [e, e1, e2, parse_textV (by rw [str_len]; exact h4)]
    exact op_mk o _ _ _ _ _ h0 h1 h2 (pack_of _).symm (pack_of _).symm
  · have e : (opR o).drop 1 = o.key.data.toList := by unfold opR; rw [if_neg (by omega), if_pos h0]; rfl
    rw [if_neg (by omega), e]
    rcases h0 with h0 | h0
    · rw [if_pos h0]
      exact op_mk o _ _ _ _ _ h0 h1 h2 (pack_of _).symm h4
    · rw [if_neg (by omega), if_pos h0]
      exact op_mk o _ _ _ _ _ h0 h1 h2 (pack_of _).symm h4
  · rw [if_neg (by omega), if_neg (by omega), if_neg (by omega), if_neg (by omega), if_neg (by omega)]
    exact op_mk o _ _ _ _ _ rfl h1 h2 h3 h4
  · have e : (opR o).drop 1 = polL o.a := by unfold opR; rw [if_neg (by omega), if_neg (by omega), if_pos h0]; rfl
    rw [if_neg (by omega), if_neg (by omega), if_neg (by omega), if_pos h0, e]
    refine op_mk o _ _ _ _ _ h0 ?_ h2 h3 h4
    rcases h1 with h1 | h1 <;> rw [h1] <;> decide
  · have e : (opR o).drop 1 = crashL o.a o.b o.val.data.toList := by unfold opR; rw [if_neg (by omega), if_neg (by omega), if_neg (by omega), if_pos h0]; rfl
    obtain ⟨g0, g1, g2, g3⟩ := crash_good (s := pack (crashL o.a o.b o.val.data.toList)) h1 h4 h3 rfl
    rw [if_neg (by omega), if_neg (by omega), if_neg (by omega), if_neg (by omega), if_pos h0, e, if_pos g0]
    refine op_mk o _ _ _ _ _ h0 g1.symm ?_ h2 ?_
    · by_cases hb : o.b = 1
      · rw [decide_eq_true hb, decide_eq_true_iff] at g2
        rw [if_pos g2, hb]
      · rw [decide_eq_false hb, decide_eq_false_iff_not] at g2
        rw [if_neg g2]
        omega
    · rw [g3, ← h4, pack_of]
theorem extR_ext (l : List UInt8) : Ext l (extR l) := by
  unfold extR
  split
  · rename_i h7
    intro o hg ht
    obtain ⟨hk, hr⟩ := ext_kind hg ht
    have h0 : o.kind = 7 := by rw [← hk]; exact h7
    rw [hr]
    rcases hg with ⟨h, _⟩ | ⟨h, _⟩ | ⟨h, _⟩ | ⟨h, _⟩ | ⟨_, h1, h2, L, h3, h4⟩
    · omega
    · omega
    · omega
    · omega
    · have e : (opR o).drop 1 = crashL o.a o.b o.val.data.toList := by unfold opR; rw [if_neg (by omega), if_neg (by omega), if_neg (by omega), if_pos h0]; rfl
      obtain ⟨g0, g1, g2, g3⟩ := crash_good (s := pack (crashL o.a o.b o.val.data.toList)) h1 h4 h3 rfl
      rw [e, crash_tl]
      refine op_mk o _ _ _ _ _ h0 ?_ ?_ h2 (pack_of _).symm
      · unfold pA; rw [if_pos g0]; exact g1.symm
      · unfold pD
        rw [if_pos g0, g2]
        by_cases hb : o.b = 1
        · rw [if_pos (decide_eq_true hb), hb]
        · rw [if_neg (by rw [decide_eq_false hb]; decide)]
          omega
  · exact extP_ext l
/-- The operation whose text it is; the zero one if there is none. -/
noncomputable def opP (l : List UInt8) : OpD := if h : ∃ o, opGood o ∧ opT o = l then Classical.choose h else zeroOp
noncomputable def opPE (l : List UInt8) : Int := if ∃ o, opGood o ∧ opT o = l then 0 else 8
theorem opP_hit {l : List UInt8} {o : OpD} (hg : opGood o) (ht : opT o = l) (he : Ext l o) : opP l = o ∧ opPE l = 0 := by
  have h : ∃ o, opGood o ∧ opT o = l := ⟨o, hg, ht⟩
  unfold opP opPE
  rw [dif_pos h, if_pos h]
  exact ⟨(he _ (Classical.choose_spec h).1 (Classical.choose_spec h).2).symm, rfl⟩
theorem opP_miss {l : List UInt8} {o : OpD} (he : Ext l o) (hn : ¬ (opGood o ∧ opT o = l)) : opP l = zeroOp ∧ opPE l = 8 := by
  have h : ¬ ∃ o, opGood o ∧ opT o = l := fun ⟨o', h1, h2⟩ => hn (by rw [he o' h1 h2]; exact ⟨h1, h2⟩)
  unfold opP opPE
  rw [dif_neg h, if_neg h]
  exact ⟨rfl, rfl⟩
theorem opP_text {o : OpD} (hg : opGood o) : opP (opT o) = o ∧ opPE (opT o) = 0 := by
  have h := extP_ext (opT o)
  rw [h o hg rfl] at h
  exact opP_hit hg rfl h
theorem opP_cases (l : List UInt8) : (opGood (opP l) ∧ opT (opP l) = l ∧ opPE l = 0) ∨ (opP l = zeroOp ∧ opPE l = 8 ∧ ∀ o, opGood o → opT o ≠ l) := by
  by_cases h : ∃ o, opGood o ∧ opT o = l
  · left
    unfold opP opPE
    rw [dif_pos h, if_pos h]
    exact ⟨(Classical.choose_spec h).1, (Classical.choose_spec h).2, rfl⟩
  · right
    unfold opP opPE
    rw [dif_neg h, if_neg h]
    exact ⟨rfl, rfl, fun o h1 h2 => h ⟨o, h1, h2⟩⟩
theorem opT_inj {o p : OpD} (ho : opGood o) (hp : opGood p) (h : opT o = opT p) : o = p := by
  have e1 := (opP_text ho).1
  rw [h, (opP_text hp).1] at e1
  exact e1.symm
/-- What Print returns. -/
noncomputable def prT (o : OpD) : ByteArray := if opGood o then pack (opT o) else eB
noncomputable def prE (o : OpD) : Int := if opGood o then 0 else 2
theorem pr_good {o : OpD} (h : opGood o) : prT o = pack (opT o) ∧ prE o = 0 := by
  unfold prT prE
  rw [if_pos h, if_pos h]
  exact ⟨rfl, rfl⟩
theorem pr_bad {o : OpD} (h : ¬ opGood o) : prT o = eB ∧ prE o = 2 := by
  unfold prT prE
  rw [if_neg h, if_neg h]
  exact ⟨rfl, rfl⟩
end Go.Proofs.YtlmbcclggaflaaaGreatDoor
namespace Go.Proofs.YtlmbcclggaflaaaGreatDoor
open Go Go.RowKit

def opC (o : OpD) : List Value := [.int .i64 o.kind, .int .i64 o.a, .int .i64 o.b, .string o.key, .string o.val]
/-- The five cells from o on hold an operation. -/
def OpCell (w : World) (b o : Nat) (x : OpD) : Prop := w.cell? ⟨b, o, none⟩ = some (.int .i64 x.kind) ∧ w.cell? ⟨b, o + 1, none⟩ = some (.int .i64 x.a) ∧ w.cell? ⟨b, o + 2, none⟩ = some (.int .i64 x.b) ∧ w.cell? ⟨b, o + 3, none⟩ = some (.string x.key) ∧ w.cell? ⟨b, o + 4, none⟩ = some (.string x.val)
theorem OpCell.below {w w' : World} {b o : Nat} {x : OpD} (h : OpCell w b o x) (hb : Below w.heap.size w w') : OpCell w' b o x :=
  ⟨cell_kept h.1 hb, cell_kept h.2.1 hb, cell_kept h.2.2.1 hb, cell_kept h.2.2.2.1 hb, cell_kept h.2.2.2.2 hb⟩
/-- The value v is a slice that reads as the operations L. -/
def OpsAt (w : World) (v : Value) (L : List OpD) : Prop :=
  ∃ p c, v = .slice p L.length c ∧ L.length ≤ c ∧ (0 < L.length → ∃ b o, p = some ⟨b, o, none⟩ ∧ ∀ i, i < L.length → OpCell w b (o + i * 5) (L.getD i zeroOp))
theorem OpsAt.below {w w' : World} {v : Value} {L : List OpD} (h : OpsAt w v L) (hb : Below w.heap.size w w') : OpsAt w' v L := by
  obtain ⟨p, c, hv, hc, hp⟩ := h
  refine ⟨p, c, hv, hc, fun h0 => ?_⟩
  obtain ⟨b, o, h1, h2⟩ := hp h0
  exact ⟨b, o, h1, fun i hi => (h2 i hi).below hb⟩
theorem OpsAt.nil (w : World) (p : Option Addr) (c : Nat) : OpsAt w (.slice p 0 c) [] := ⟨p, c, rfl, Nat.zero_le _, fun h => absurd h (Nat.lt_irrefl 0)⟩
theorem opsC_len (L : List OpD) : (L.flatMap opC).length = L.length * 5 := by
  induction L with
  | nil => rfl
  | cons x r ih => rw [List.flatMap_cons, List.length_append, ih]; simp [opC]; omega
theorem opsC_at (L : List OpD) (i j : Nat) (hi : i < L.length) (hj : j < 5) : (L.flatMap opC)[i * 5 + j]? = (opC (L.getD i zeroOp))[j]? := by
  induction L generalizing i with
  | nil => simp at hi
  | cons x r ih =>
    rw [List.flatMap_cons]
    cases i with
    | zero => rw [Nat.zero_mul, Nat.zero_add, List.getElem?_append_left (by simpa [opC] using hj)]; rfl
    | succ k =>
      rw [List.getElem?_append_right (by simp [opC]; omega)]
      have e : (k + 1) * 5 + j - (opC x).length = k * 5 + j := by simp [opC]; omega
      rw [e, ih k (by simpa using hi)]
      rfl
/-- The value v is a slice in memory of the call's own that reads as the operations L. -/
def OpsNew (B : Nat) (w : World) (v : Value) (L : List OpD) : Prop := w.ownsRow B 28 5 v L.length (L.flatMap opC)
theorem OpsNew.at {B : Nat} {w : World} {v : Value} {L : List OpD} (h : OpsNew B w v L) : OpsAt w v L := by
  rcases h.2 with ⟨hv, h0⟩ | ⟨g, cap, cur, hv, hb, hg, hc, hm, hs, ht⟩
  · exact ⟨none, 0, by rw [hv, h0], by omega, fun h => by omega⟩
  · refine ⟨some ⟨g, 0, none⟩, cap, hv, hc, fun _ => ⟨g, 0, rfl, fun i hi => ?_⟩⟩
    subst hv
    have hh : ∀ j, j < 5 → w.cell? ⟨g, 0 + i * 5 + j, none⟩ = (opC (L.getD i zeroOp))[j]? := fun j hj => by
      have h1 := World.ownsRow.cellAt h (i * 5 + j) (by omega)
      rw [Nat.zero_add, h1]
      exact opsC_at L i j hi hj
    exact ⟨hh 0 (by omega), hh 1 (by omega), hh 2 (by omega), hh 3 (by omega), hh 4 (by omega)⟩
theorem OpsNew.nil (B : Nat) (w : World) : OpsNew B w (.slice none 0 0) [] := ⟨rfl, Or.inl ⟨rfl, rfl⟩⟩
theorem OpsNew.below {B : Nat} {w w' : World} {v : Value} {L : List OpD} (h : OpsNew B w v L) (hb : Below w.heap.size w w') : OpsNew B w' v L :=
  World.ownsRow.kept h (below_grow hb none) (by cases v.ownBlock <;> simp)
theorem OpsNew.base {B C : Nat} {w : World} {v : Value} {L : List OpD} (h : OpsNew C w v L) (hB : B ≤ C) : OpsNew B w v L := by
  refine ⟨h.1, ?_⟩
  rcases h.2 with h2 | ⟨g, cap, cur, hv, hb, rest⟩
  · exact Or.inl h2
  · exact Or.inr ⟨g, cap, cur, hv, by omega, rest⟩
/-- The string of a script. -/
def paL (L : List OpD) : List UInt8 := L.flatMap fun o => opT o ++ [10]
open Classical in
/-- The error for a script. -/
noncomputable def paE (L : List OpD) : Int := if 2000 < L.length then 10 else if ∃ o ∈ L, ¬ opGood o then 2 else if 65536 < (paL L).length then 9 else 0
open Classical in
noncomputable def paT (L : List OpD) : ByteArray := if paE L = 0 then pack (paL L) else eB
/-- A line is passed by. -/
def skipL (x : List UInt8) : Bool := decide (x = []) || decide (x.head? = some 35)
open Classical in
/-- What is read from lines, behind operations that were read: all operations, the line, the error. -/
noncomputable def rdL : List (List UInt8) → Nat → List OpD → List OpD × Int × Int
  | [], _, acc => (acc, 0, 0)
  | x :: r, at', acc =>
    if skipL x = true then rdL r (at' + 1) acc
    else if acc.length = 2000 then ([], (at' : Int) + 1, 10)
    else if opPE x = 0 then rdL r (at' + 1) (acc ++ [opP x])
    else ([], (at' : Int) + 1, 8)
/-- What ParseAll returns. -/
noncomputable def rdA (s : ByteArray) : List OpD × Int × Int := if 65536 < s.size then ([], 0, 9) else rdL (pc 10 s.data.toList) 0 []
end Go.Proofs.YtlmbcclggaflaaaGreatDoor
namespace Go.Proofs.YtlmbcclggaflaaaGreatDoor
open Go Go.RowKit

/-- The string that the program makes for a plan. -/
def crashI (a b : Int) (v : List UInt8) : List UInt8 := Lib.itoa a ++ 32 :: (if b = 1 then 121 else 110) :: 32 :: v
theorem itoa_neg {a : Int} (h : a < 0) : Lib.itoa a = 45 :: dS (a.natAbs : Int) := by
  unfold Lib.itoa dS
  rw [if_pos h]
  rfl
theorem itoa_pos {a : Int} (h : 0 ≤ a) : Lib.itoa a = dS a := by
  unfold Lib.itoa dS
  rw [if_neg (by omega)]
theorem itoa_no (a : Int) : (32 : UInt8) ∉ Lib.itoa a := by
  by_cases h : a < 0
  · rw [itoa_neg h]
    intro hm
    rcases List.mem_cons.1 hm with e | e
    · exact absurd e (by decide)
    · exact dS_no _ 32 (by decide) e
  · rw [itoa_pos (by omega)]
    exact dS_no _ 32 (by decide)
theorem crashI_pos {a b : Int} {v : List UInt8} (h : 0 ≤ a) : crashI a b v = crashL a b v := by
  unfold crashI crashL
  rw [itoa_pos h]
theorem crashI_neg {s : ByteArray} {a b : Int} {v : List UInt8} (h : a < 0) (hs : s.data.toList = crashI a b v) : ¬ goodP s := by
  intro hg
  obtain ⟨hp, ht⟩ := text_good hg
  rw [textB_eq, hs] at ht
  unfold crashI at ht
  have e1 := hd_at 32 (Lib.itoa a) ((if b = 1 then 121 else 110) :: 32 :: v) (itoa_no a)
  have e2 := hd_at 32 (dS (numN (w3 s 0) : Int)) ((if decide (w3 s 1 = yS) = true then 121 else 110) :: 32 :: keepT (kepL s)) (dS_no _ 32 (by decide))
  have e3 : Lib.itoa a = dS (numN (w3 s 0) : Int) := by rw [← e1.1, ht, e2.1]
  rw [itoa_neg h] at e3
  exact dS_no (numN (w3 s 0) : Int) 45 (by decide) (by rw [← e3]; simp)
theorem crash_iff {s : ByteArray} {a b : Int} {v : List UInt8} (hb : b = 0 ∨ b = 1) (hs : s.data.toList = crashI a b v) : goodP s ↔ ∃ L, planOK a L = true ∧ v = keepT L := by
  constructor
  · intro hg
    by_cases h : a < 0
    · exact absurd hg (crashI_neg h hs)
    · rw [crashI_pos (by omega)] at hs
      obtain ⟨L, h1, h2, _⟩ := crash_of (by omega) hb hs hg
      exact ⟨L, h1, h2⟩
  · rintro ⟨L, h1, h2⟩
    rw [crashI_pos (planOK_parts h1).1] at hs
    exact (crash_good hb h2 h1 hs).1
/-- An operation of kind 7 is valid. -/
theorem good7 {o : OpD} {s : ByteArray} (hk : o.kind = 7) (hb : o.b = 0 ∨ o.b = 1) (hs : s.data.toList = crashI o.a o.b o.val.data.toList) : opGood o ↔ o.key = eB ∧ goodP s := by
  rw [crash_iff hb hs]
  constructor
  · rintro (⟨h, _⟩ | ⟨h, _⟩ | ⟨h, _⟩ | ⟨h, _⟩ | ⟨_, h1, h2, h3⟩)
    · omega
    · omega
    · omega
    · omega
    · exact ⟨h2, h3⟩
  · rintro ⟨h1, h2⟩
    exact Or.inr (Or.inr (Or.inr (Or.inr ⟨hk, hb, h1, h2⟩)))
theorem good7_b {o : OpD} (hk : o.kind = 7) (h : opGood o) : o.b = 0 ∨ o.b = 1 := by
  rcases h with ⟨h, _⟩ | ⟨h, _⟩ | ⟨h, _⟩ | ⟨h, _⟩ | ⟨_, h1, _⟩
  · omega
  · omega
  · omega
  · omega
  · exact h1
theorem good7_text {o : OpD} (hk : o.kind = 7) (h : opGood o) : opT o = wordL 7 ++ 32 :: crashI o.a o.b o.val.data.toList := by
  rcases h with ⟨h, _⟩ | ⟨h, _⟩ | ⟨h, _⟩ | ⟨h, _⟩ | ⟨_, _, _, L, h3, _⟩
  · omega
  · omega
  · omega
  · omega
  · rw [crashI_pos (planOK_parts h3).1]
    unfold opT opR
    rw [hk, if_neg (by decide), if_neg (by decide), if_neg (by decide), if_pos rfl]
theorem good1 {o : OpD} (hk : o.kind = 1) : opGood o ↔ o.a = 0 ∧ o.b = 0 ∧ keyV o.key.data.toList = 0 ∧ o.val.size ≤ 512 := by
  constructor
  · rintro (⟨_, h⟩ | ⟨h, _⟩ | ⟨h, _⟩ | ⟨h, _⟩ | ⟨h, _⟩)
    · exact h
    · omega
    · omega
    · omega
    · omega
  · exact fun h => Or.inl ⟨hk, h⟩
theorem good1_text {o : OpD} (hk : o.kind = 1) : opT o = wordL 1 ++ 32 :: (o.key.data.toList ++ 32 :: (textV o.val.data.toList).1) := by
  unfold opT opR
  rw [hk, if_pos rfl]
theorem good2 {o : OpD} (hk : o.kind = 2 ∨ o.kind = 3) : opGood o ↔ o.a = 0 ∧ o.b = 0 ∧ keyV o.key.data.toList = 0 ∧ o.val = eB := by
  constructor
  · rintro (⟨h, _⟩ | ⟨_, h⟩ | ⟨h, _⟩ | ⟨h, _⟩ | ⟨h, _⟩)
    · omega
    · exact h
    · omega
    · omega
    · omega
  · exact fun h => Or.inr (Or.inl ⟨hk, h⟩)
theorem good2_text {o : OpD} (hk : o.kind = 2 ∨ o.kind = 3) : opT o = wordL o.kind ++ 32 :: o.key.data.toList := by
  unfold opT opR
  rw [if_neg (by omega), if_pos hk]
theorem good4 {o : OpD} (hk : o.kind = 4 ∨ o.kind = 5 ∨ o.kind = 8) : opGood o ↔ o.a = 0 ∧ o.b = 0 ∧ o.key = eB ∧ o.val = eB := by
  constructor
  · rintro (⟨h, _⟩ | ⟨h, _⟩ | ⟨_, h⟩ | ⟨h, _⟩ | ⟨h, _⟩)
    · omega
    · omega
    · exact h
    · omega
    · omega
  · exact fun h => Or.inr (Or.inr (Or.inl ⟨hk, h⟩))
theorem good4_text {o : OpD} (hk : o.kind = 4 ∨ o.kind = 5 ∨ o.kind = 8) : opT o = wordL o.kind := by
  unfold opT opR
  rw [if_neg (by omega), if_neg (by omega), if_neg (by omega), if_neg (by omega), List.append_nil]
theorem good6 {o : OpD} (hk : o.kind = 6) : opGood o ↔ (o.a = 1 ∨ o.a = 2) ∧ o.b = 0 ∧ o.key = eB ∧ o.val = eB := by
  constructor
  · rintro (⟨h, _⟩ | ⟨h, _⟩ | ⟨h, _⟩ | ⟨_, h⟩ | ⟨h, _⟩)
    · omega
    · omega
    · omega
    · exact h
    · omega
  · exact fun h => Or.inr (Or.inr (Or.inr (Or.inl ⟨hk, h⟩)))
theorem good6_text {o : OpD} (hk : o.kind = 6) : opT o = wordL 6 ++ 32 :: polL o.a := by
  unfold opT opR
  rw [hk, if_neg (by decide), if_neg (by decide), if_pos rfl]
theorem good0 {o : OpD} (hk : o.kind < 1 ∨ 8 < o.kind) : ¬ opGood o := fun h => by
  have := good_kind h
  omega
end Go.Proofs.YtlmbcclggaflaaaGreatDoor
