/-
  Configurations: what record, in, and Check compute, of the program and of the reference.
  Conditions: none.
-/
import Derived.Test.YtllgnogiicdhfaaDoorProg
import Derived.Test.YtllgnogiicdhfaaDoorPlain
import Derived.Test.YtllgnogiicdhfaaDoorShelf
import Derived.WalkLawsBesides
import Derived.WalkSpells
import Derived.Deep.QuietTactic
import Derived.BigQuiet
import Derived.Outline
import Derived.Lib.Hide
import Derived.Deep.RegionHeld3
import Derived.StillTailTactics
set_option linter.unusedVariables false
namespace Go.Proofs.YtllgnogiicdhfaaDoor
open Go Go.RowKit

/-- A configuration as a value: slots, size, reserve, work, key, value, policy. -/
abbrev cfgV (S Z R W K V P : Int) : Value := .agg #[.int .i64 S, .int .i64 Z, .int .i64 R, .int .i64 W, .int .i64 K, .int .i64 V, .int .i64 P]
/-- The size of the greatest record, as Go reckons it. -/
def recW (K V : Int) : Int := IntKind.i64.wrap (IntKind.i64.wrap (16 + K) + V)
theorem recW_in {K V : Int} (h1 : 1 ≤ K) (h2 : K ≤ 32) (h3 : 0 ≤ V) (h4 : V ≤ 512) : recW K V = 16 + K + V := by
  unfold recW
  rw [IntWalk.i64_in (16 + K) (by omega), IntWalk.i64_in _ (by omega)]
theorem record_any (S Z R W K V P : Int) (w : World) :
    Calls Tryd.prog 30 #[cfgV S Z R W K V P] w fun e w' => e = .returned (.int .i64 (recW K V)) ∧ Below w.heap.size w w' := by
  obtain ⟨x, hx⟩ : ∃ x, IntKind.i64.wrap (16 + K) = x := ⟨_, rfl⟩
  obtain ⟨y, hy⟩ : ∃ y, IntKind.i64.wrap (x + V) = y := ⟨_, rfl⟩
  have HY : Hid (recW K V = y) := by show _ = _; unfold recW; rw [hx, hy]
  go_enter Tryd.func30, Tryd.ntmps30
  go_wp2_with fail
  go_ret
  exact ⟨by rw [HY.out]; rfl, (Below.refl _ _).alloc (Nat.le_refl _) _⟩
theorem in_any (n l m : Int) (w : World) :
    Calls Tryd.prog 35 #[.int .i64 n, .int .i64 l, .int .i64 m] w fun e w' => e = .returned (.bool (decide (l ≤ n ∧ n ≤ m))) ∧ w = w' := by
  by_cases h1 : l ≤ n
  · have d1 : decide (l ≤ n) = true := by rw [decide_eq_true_iff]; exact h1
    by_cases h2 : n ≤ m
    · have d2 : decide (n ≤ m) = true := by rw [decide_eq_true_iff]; exact h2
      have HB : Hid (decide (l ≤ n ∧ n ≤ m) = true) := by show _ = _; rw [decide_eq_true_iff]; exact ⟨h1, h2⟩
      clear h1 h2
      go_enter Tryd.func35, Tryd.ntmps35
      go_wp2_with fail
      go_ret
      exact ⟨by rw [HB.out]; rfl, rfl⟩
    · have d2 : decide (n ≤ m) = false := by rw [decide_eq_false_iff_not]; exact h2
      have HB : Hid (decide (l ≤ n ∧ n ≤ m) = false) := by show _ = _; rw [decide_eq_false_iff_not]; exact fun h => h2 h.2
      clear h1 h2
      go_enter Tryd.func35, Tryd.ntmps35
      go_wp2_with fail
      go_ret
      exact ⟨by rw [HB.out]; rfl, rfl⟩
  · have d1 : decide (l ≤ n) = false := by rw [decide_eq_false_iff_not]; exact h1
    have HB : Hid (decide (l ≤ n ∧ n ≤ m) = false) := by show _ = _; rw [decide_eq_false_iff_not]; exact fun h => h1 h.1
    clear h1
    go_enter Tryd.func35, Tryd.ntmps35
    go_wp2_with fail
    go_ret
    exact ⟨by rw [HB.out]; rfl, rfl⟩

/-- Which configurations are valid. -/
def cfgOK (S Z R W K V P : Int) : Bool := decide (2 ≤ R ∧ R ≤ 8) && decide (R + 2 ≤ S ∧ S ≤ 32) && decide (1 ≤ K ∧ K ≤ 32) && decide (0 ≤ V ∧ V ≤ 512) &&
  decide (16 + (16 + K + V) ≤ Z ∧ Z ≤ 8192) && decide (2 * (16 + K + V + 16) ≤ W ∧ W ≤ 65536) && decide (1 ≤ P ∧ P ≤ 2)
def cfgE (S Z R W K V P : Int) : Int := if cfgOK S Z R W K V P = true then 0 else 2
theorem cfgOK_iff (S Z R W K V P : Int) : cfgOK S Z R W K V P = true ↔ (2 ≤ R ∧ R ≤ 8) ∧ (R + 2 ≤ S ∧ S ≤ 32) ∧ (1 ≤ K ∧ K ≤ 32) ∧ (0 ≤ V ∧ V ≤ 512) ∧ (16 + (16 + K + V) ≤ Z ∧ Z ≤ 8192) ∧ (2 * (16 + K + V + 16) ≤ W ∧ W ≤ 65536) ∧ (1 ≤ P ∧ P ≤ 2) := by
  unfold cfgOK
  simp only [Bool.and_eq_true, decide_eq_true_iff, and_assoc]

theorem cell_kept {w w' : World} {a : Addr} {v : Value} (h : w.cell? a = some v) (hb : Below w.heap.size w w') : w'.cell? a = some v := by
  rw [hb.cell (World.block_lt_of_cell? w _ h)]; exact h
theorem cell_old {w : World} {o : Obj} {a : Addr} {v : Value} (h : w.cell? a = some v) : (w.alloc o).cell? a = some v :=
  cell_kept h ((Below.refl _ _).alloc (Nat.le_refl _) o)
/-- A configuration in memory. -/
def CfgAt (w : World) (B : Nat) (S Z R W K V P : Int) : Prop := w.cell? ⟨B, 0, none⟩ = some (.int .i64 S) ∧ w.cell? ⟨B, 1, none⟩ = some (.int .i64 Z) ∧ w.cell? ⟨B, 2, none⟩ = some (.int .i64 R) ∧ w.cell? ⟨B, 3, none⟩ = some (.int .i64 W) ∧
  w.cell? ⟨B, 4, none⟩ = some (.int .i64 K) ∧ w.cell? ⟨B, 5, none⟩ = some (.int .i64 V) ∧ w.cell? ⟨B, 6, none⟩ = some (.int .i64 P)
theorem cfgAt_new (w : World) (S Z R W K V P : Int) (t : TypeId) : CfgAt (w.alloc (.cells #[.int .i64 S, .int .i64 Z, .int .i64 R, .int .i64 W, .int .i64 K, .int .i64 V, .int .i64 P] t)) w.heap.size S Z R W K V P := by
  have hh := heap_alloc_new w (.cells #[.int .i64 S, .int .i64 Z, .int .i64 R, .int .i64 W, .int .i64 K, .int .i64 V, .int .i64 P] t)
  refine ⟨?_, ?_, ?_, ?_, ?_, ?_, ?_⟩ <;> (rw [Lib.cell_of_heap hh]; rfl)

/-- The number at a place of a list of spans is in its span. -/
def spanOK (L : List Int) (j : Nat) : Bool := decide (L.getD (j * 3 + 1) 0 ≤ L.getD (j * 3) 0 ∧ L.getD (j * 3) 0 ≤ L.getD (j * 3 + 2) 0)
theorem spans_all (L : List Int) : (∀ j, j < 7 → spanOK L j = true) ↔ spanOK L 0 = true ∧ spanOK L 1 = true ∧ spanOK L 2 = true ∧ spanOK L 3 = true ∧ spanOK L 4 = true ∧ spanOK L 5 = true ∧ spanOK L 6 = true := by
  constructor
  · intro h
    exact ⟨h 0 (by decide), h 1 (by decide), h 2 (by decide), h 3 (by decide), h 4 (by decide), h 5 (by decide), h 6 (by decide)⟩
  · rintro ⟨h0, h1, h2, h3, h4, h5, h6⟩ j hj
    match j, hj with
    | 0, _ => exact h0
    | 1, _ => exact h1
    | 2, _ => exact h2
    | 3, _ => exact h3
    | 4, _ => exact h4
    | 5, _ => exact h5
    | 6, _ => exact h6
theorem spans_iff (S Z R W K V P x r2 z1 y1 y2 : Int) (hx : recW K V = x) (hr : IntKind.i64.wrap (R + 2) = r2) (hz : IntKind.i64.wrap (16 + x) = z1) (hy : IntKind.i64.wrap (x + 16) = y1) (hy2 : IntKind.i64.wrap (2 * y1) = y2) :
    (∀ j, j < 7 → spanOK [R, 2, 8, S, r2, 32, K, 1, 32, V, 0, 512, Z, z1, 8192, W, y2, 65536, P, 1, 2] j = true) ↔ cfgOK S Z R W K V P = true := by
  rw [spans_all, cfgOK_iff]
  have e : ∀ (L : List Int) (j : Nat), spanOK L j = true ↔ (L.getD (j * 3 + 1) 0 ≤ L.getD (j * 3) 0 ∧ L.getD (j * 3) 0 ≤ L.getD (j * 3 + 2) 0) := fun L j => by unfold spanOK; rw [decide_eq_true_iff]
  simp only [e]
  show (2 ≤ R ∧ R ≤ 8) ∧ (r2 ≤ S ∧ S ≤ 32) ∧ (1 ≤ K ∧ K ≤ 32) ∧ (0 ≤ V ∧ V ≤ 512) ∧ (z1 ≤ Z ∧ Z ≤ 8192) ∧ (y2 ≤ W ∧ W ≤ 65536) ∧ (1 ≤ P ∧ P ≤ 2) ↔ _
  by_cases h1 : 2 ≤ R ∧ R ≤ 8
  · have e1 : r2 = R + 2 := by rw [← hr]; exact IntWalk.i64_in _ (by omega)
    by_cases h2 : (1 ≤ K ∧ K ≤ 32) ∧ (0 ≤ V ∧ V ≤ 512)
    · have e2 : x = 16 + K + V := by rw [← hx]; exact recW_in (by omega) (by omega) (by omega) (by omega)
      have e3 : z1 = 16 + x := by rw [← hz]; exact IntWalk.i64_in _ (by omega)
      have e4 : y1 = x + 16 := by rw [← hy]; exact IntWalk.i64_in _ (by omega)
      have e5 : y2 = 2 * y1 := by rw [← hy2]; exact IntWalk.i64_in _ (by omega)
      omega
    · omega
  · omega
/-- Numbers in memory. -/
def ListAt (w : World) (B : Nat) (l : List Int) : Prop := ∀ j, j < l.length → w.cell? ⟨B, j, none⟩ = some (.int .i64 (l.getD j 0))
theorem listAt_new (w : World) (l : List Int) (t : TypeId) : ListAt (w.alloc (.cells (l.map (Value.int .i64)).toArray t)) w.heap.size l := fun j hj => by
  have hh := heap_alloc_new w (.cells (l.map (Value.int .i64)).toArray t)
  rw [Lib.cell_of_heap hh, List.getElem?_toArray, List.getElem?_map, List.getD, List.getElem?_eq_getElem hj]
  rfl
theorem ListAt.below {w w' : World} {B : Nat} {l : List Int} (h : ListAt w B l) (hb : Below w.heap.size w w') : ListAt w' B l := fun j hj => cell_kept (h j hj) hb

set_option maxRecDepth 100000 in
set_option maxHeartbeats 4000000 in
theorem check_any (S Z R W K V P : Int) (w : World) :
    Calls Tryd.prog 18 #[cfgV S Z R W K V P] w fun e w' => e = .returned (.int .i64 (cfgE S Z R W K V P)) ∧ Below w.heap.size w w' := by
  obtain ⟨x, hx⟩ : ∃ x, recW K V = x := ⟨_, rfl⟩
  have HX := Lib.hid hx
  clear hx
  obtain ⟨r2, hr2⟩ : ∃ r, IntKind.i64.wrap (R + 2) = r := ⟨_, rfl⟩
  obtain ⟨z1, hz1⟩ : ∃ r, IntKind.i64.wrap (16 + x) = r := ⟨_, rfl⟩
  obtain ⟨y1, hy1⟩ : ∃ r, IntKind.i64.wrap (x + 16) = r := ⟨_, rfl⟩
  obtain ⟨y2, hy2⟩ : ∃ r, IntKind.i64.wrap (2 * y1) = r := ⟨_, rfl⟩
  go_enter Tryd.func18, Tryd.ntmps18
  go_wp2_with fail
  have hk := cfgAt_new w S Z R W K V P 23
  have c0 : Below w.heap.size w (w.alloc (.cells #[.int .i64 S, .int .i64 Z, .int .i64 R, .int .i64 W, .int .i64 K, .int .i64 V, .int .i64 P] 23)) := (Below.refl _ _).alloc (Nat.le_refl _) _
  generalize w.alloc (.cells #[.int .i64 S, .int .i64 Z, .int .i64 R, .int .i64 W, .int .i64 K, .int .i64 V, .int .i64 P] 23) = w0 at *
  obtain ⟨k0, k1, k2, k3, k4, k5, k6⟩ := hk
  go_region_held3 (fun w' => w'.cell? ⟨w.heap.size, 0, none⟩ = some (.int .i64 S) ∧ w'.cell? ⟨w.heap.size, 1, none⟩ = some (.int .i64 Z) ∧ w'.cell? ⟨w.heap.size, 2, none⟩ = some (.int .i64 R) ∧ w'.cell? ⟨w.heap.size, 3, none⟩ = some (.int .i64 W) ∧
      w'.cell? ⟨w.heap.size, 4, none⟩ = some (.int .i64 K) ∧ w'.cell? ⟨w.heap.size, 5, none⟩ = some (.int .i64 V) ∧ w'.cell? ⟨w.heap.size, 6, none⟩ = some (.int .i64 P) ∧ Below w.heap.size w w')
    (first
      | exact ⟨k0, k1, k2, k3, k4, k5, k6, c0.drew⟩
      | exact ⟨by assumption, by assumption, by assumption, by assumption, by assumption, by assumption, by assumption, by assumption⟩
      | (go_split_ands; exact ⟨cell_kept (by assumption) b1, cell_kept (by assumption) b1, cell_kept (by assumption) b1, cell_kept (by assumption) b1, cell_kept (by assumption) b1, cell_kept (by assumption) b1, cell_kept (by assumption) b1, Below.trans (by assumption) (b1.mono (Below.size (by assumption)))⟩)
      | (go_split_ands; exact ⟨cell_old (by assumption), cell_old (by assumption), cell_old (by assumption), cell_old (by assumption), cell_old (by assumption), cell_old (by assumption), cell_old (by assumption), Below.alloc (by assumption) (Below.size (by assumption)) _⟩))
    (first | (go_at_call 30; refine (record_any S Z R W K V P _).mono ?_; rw [HX.out]; rintro e w1 ⟨rfl, b1⟩))
  have c2 : Below w.heap.size w (w1.alloc (.cells #[.int .i64 R, .int .i64 2, .int .i64 8, .int .i64 S, .int .i64 r2, .int .i64 32, .int .i64 K, .int .i64 1, .int .i64 32, .int .i64 V, .int .i64 0, .int .i64 512, .int .i64 Z, .int .i64 z1, .int .i64 8192, .int .i64 W, .int .i64 y2, .int .i64 65536, .int .i64 P, .int .i64 1, .int .i64 2] 52)) := by
    first
      | assumption
      | (go_split_ands; first | assumption | exact Below.alloc (by assumption) (Below.size (by assumption)) _)
  have hl : ListAt (w1.alloc (.cells #[.int .i64 R, .int .i64 2, .int .i64 8, .int .i64 S, .int .i64 r2, .int .i64 32, .int .i64 K, .int .i64 1, .int .i64 32, .int .i64 V, .int .i64 0, .int .i64 512, .int .i64 Z, .int .i64 z1, .int .i64 8192, .int .i64 W, .int .i64 y2, .int .i64 65536, .int .i64 P, .int .i64 1, .int .i64 2] 52)) w1.heap.size [R, 2, 8, S, r2, 32, K, 1, 32, V, 0, 512, Z, z1, 8192, W, y2, 65536, P, 1, 2] := listAt_new w1 _ _
  generalize w1.alloc (.cells #[.int .i64 R, .int .i64 2, .int .i64 8, .int .i64 S, .int .i64 r2, .int .i64 32, .int .i64 K, .int .i64 1, .int .i64 32, .int .i64 V, .int .i64 0, .int .i64 512, .int .i64 Z, .int .i64 z1, .int .i64 8192, .int .i64 W, .int .i64 y2, .int .i64 65536, .int .i64 P, .int .i64 1, .int .i64 2] 52) = wB at *
  generalize w1.heap.size = B at *
  have HL := Lib.hid hl
  have HI := Lib.hid (spans_iff S Z R W K V P x r2 z1 y1 y2 HX.out hr2 hz1 hy1 hy2)
  clear hl b1 hr2 hz1 hy1 hy2 k0 k1 k2 k3 k4 k5 k6 c0
  go_wp2_with fail
  go_loopw [38] (fun vi wr => ∃ i : Nat, i ≤ 7 ∧ vi = .int .i64 i ∧ Hid (ListAt wr B [R, 2, 8, S, r2, 32, K, 1, 32, V, 0, 512, Z, z1, 8192, W, y2, 65536, P, 1, 2]) ∧ Below w.heap.size w wr ∧ Hid (∀ j, j < i → spanOK [R, 2, 8, S, r2, 32, K, 1, 32, V, 0, 512, Z, z1, 8192, W, y2, 65536, P, 1, 2] j = true)) (fun vi _ => 7 - (intOf vi).toNat)
  case atStart => exact ⟨0, Nat.zero_le _, rfl, HL, c2, fun j hj => absurd hj (Nat.not_lt_zero _)⟩
  case round =>
    clear HL c2
    obtain ⟨i, hi, rfl, hl, c2, hok⟩ := hrel
    by_cases hlt : i < 7
    · have g0 := hl.out (i * 3) (by show _ < 21; omega)
      have g1 := hl.out (i * 3 + 1) (by show _ < 21; omega)
      have g2 := hl.out (i * 3 + 2) (by show _ < 21; omega)
      obtain ⟨n, hn⟩ : ∃ n, [R, 2, 8, S, r2, 32, K, 1, 32, V, 0, 512, Z, z1, 8192, W, y2, 65536, P, 1, 2].getD (i * 3) 0 = n := ⟨_, rfl⟩
      obtain ⟨l, hl1⟩ : ∃ n, [R, 2, 8, S, r2, 32, K, 1, 32, V, 0, 512, Z, z1, 8192, W, y2, 65536, P, 1, 2].getD (i * 3 + 1) 0 = n := ⟨_, rfl⟩
      obtain ⟨m, hm⟩ : ∃ n, [R, 2, 8, S, r2, 32, K, 1, 32, V, 0, 512, Z, z1, 8192, W, y2, 65536, P, 1, 2].getD (i * 3 + 2) 0 = n := ⟨_, rfl⟩
      rw [hn] at g0
      rw [hl1] at g1
      rw [hm] at g2
      have HN : Hid (spanOK [R, 2, 8, S, r2, 32, K, 1, 32, V, 0, 512, Z, z1, 8192, W, y2, 65536, P, 1, 2] i = decide (l ≤ n ∧ n ≤ m)) := by show _ = _; unfold spanOK; rw [hn, hl1, hm]
      clear hn hl1 hm
      have hbad : ¬ (l ≤ n ∧ n ≤ m) → cfgE S Z R W K V P = 2 := fun hb => by
        unfold cfgE
        rw [if_neg]
        intro hc
        have := HI.out.2 hc i hlt
        rw [HN.out, decide_eq_true_iff] at this
        exact hb this
      by_cases h1 : n < l
      · have d1 : decide (n < l) = true := by rw [decide_eq_true_iff]; exact h1
        have HB := Lib.hid (hbad (by omega))
        clear hbad h1
        go_wp2_with fail
        go_ret
        exact ⟨by rw [HB.out]; rfl, c2.alloc c2.size _⟩
      · have d1 : decide (n < l) = false := by rw [decide_eq_false_iff_not]; exact h1
        by_cases h2 : m < n
        · have d2 : decide (m < n) = true := by rw [decide_eq_true_iff]; exact h2
          have HB := Lib.hid (hbad (by omega))
          clear hbad h1 h2
          go_wp2_with fail
          go_ret
          exact ⟨by rw [HB.out]; rfl, c2.alloc c2.size _⟩
        · have d2 : decide (m < n) = false := by rw [decide_eq_false_iff_not]; exact h2
          have HK : Hid (∀ j, j < i + 1 → spanOK [R, 2, 8, S, r2, 32, K, 1, 32, V, 0, 512, Z, z1, 8192, W, y2, 65536, P, 1, 2] j = true) := by
            intro j hj
            by_cases h : j < i
            · exact hok.out j h
            · obtain rfl : j = i := by omega
              rw [HN.out, decide_eq_true_iff]; omega
          clear hbad h1 h2 hok
          go_wp2_with fail
          go_roundw
          case rel => exact ⟨i + 1, by omega, by go_num, Lib.hid (hl.out.below ((Below.refl _ _).alloc (Nat.le_refl _) _)), c2.alloc c2.size _, HK⟩
          case measure => simp [intOf]; omega
    · obtain rfl : i = 7 := by omega
      have HB : Hid (cfgE S Z R W K V P = 0) := by show _ = _; unfold cfgE; rw [if_pos (HI.out.1 hok.out)]
      clear hok
      go_wp2_with fail
      go_ret
      exact ⟨by rw [HB.out]; rfl, c2⟩
end Go.Proofs.YtllgnogiicdhfaaDoor
