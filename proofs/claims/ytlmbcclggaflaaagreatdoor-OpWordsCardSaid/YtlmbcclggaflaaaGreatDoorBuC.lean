/-
  The shapes of the kinds; what Word and Update compute, of the program and of the reference.
  strings.ContainsRune over a string of ASCII bytes: a rune beyond ASCII is not there.
  What key's Check computes.
  What codec.Hex, nibble and ParseHex compute, on lists of bytes.
  What value.Check, Text, Parse compute, on lists of bytes.
  What the writing functions of the kinds compute.
  Plans: what the reference's Parse computes.
  The reference of layer 39: what plan computes.
  What the reference of layer 5 computes: Check.
  Comparing operations as values.
  What Print makes of an operation, kind by kind.
  Conditions: as each theorem says (bytes: at most 100,000; the library's tables and variables lie in the world).
-/
import Derived.Test.YtlmbcclggaflaaaGreatDoorProg
import Derived.Test.YtlmbcclggaflaaaGreatDoorBuA
import Derived.WalkLawsBesides
import Derived.WalkSpells
import Derived.Deep.QuietTactic
import Derived.BigQuiet
import Derived.Outline
import Derived.Lib.Hide
import Derived.Deep.RegionHeld3
import Derived.StillTailTactics
import Derived.Laws.EntriesVeiled
import Derived.Test.YtlmbcclggaflaaaGreatDoorShelf
import Derived.Laws.RangeAny
import Derived.Laws.Runes
import Derived.Deep.AppendLies
import Derived.Deep.RegionLaw
import Derived.BigRegion
import Derived.Laws.BitsLemmas
import Derived.Deep.RegionWith
import Derived.Test.YtlmbcclggaflaaaGreatDoorBuB
import Derived.WalkKit
import Derived.Laws.StructEq
set_option linter.unusedVariables false
namespace Go.Proofs.YtlmbcclggaflaaaGreatDoor
open Go Go.RowKit

abbrev shCells : Array Value := #[.string ⟨#[]⟩, .nilFunc, .nilFunc, .string ⟨#[112, 117, 116]⟩, (.func (.func 94) #[] #[]), (.func (.func 95) #[] #[]), .string ⟨#[103, 101, 116]⟩, (.func (.func 96) #[] #[]), (.func (.func 97) #[] #[]),
  .string ⟨#[100, 101, 108, 101, 116, 101]⟩, (.func (.func 96) #[] #[]), (.func (.func 97) #[] #[]), .string ⟨#[115, 121, 110, 99]⟩, .nilFunc, .nilFunc, .string ⟨#[115, 116, 101, 112]⟩, .nilFunc, .nilFunc,
  .string ⟨#[112, 111, 108, 105, 99, 121]⟩, (.func (.func 98) #[] #[]), (.func (.func 99) #[] #[]), .string ⟨#[99, 114, 97, 115, 104]⟩, (.func (.func 100) #[] #[]), (.func (.func 101) #[] #[]), .string ⟨#[114, 101, 111, 112, 101, 110]⟩, .nilFunc, .nilFunc]
theorem shapes_any (w : World) :
    Calls Tryz.prog 69 #[] w fun e w' => e = .returned (.slice (some ⟨w.heap.size, 0, none⟩) 9 9) ∧ w' = w.alloc (.cells shCells 90) := by
  go_enter Tryz.func69, Tryz.ntmps69
  go_wp2_with fail
  go_ret
  exact ⟨rfl, rfl⟩
theorem of_put (w : World) :
    Calls Tryz.prog 53 #[.int .i64 1] w fun e w' => e = .returned (.tuple #[.agg #[.string ⟨#[112, 117, 116]⟩, (.func (.func 94) #[] #[]), (.func (.func 95) #[] #[])], .bool true]) ∧ Below w.heap.size w w' := by
  go_enter Tryz.func53, Tryz.ntmps53
  go_wp2_with fail
  refine (shapes_any _).mono ?_
  rintro e w1 ⟨rfl, rfl⟩
  go_wp2_with fail
  exact bodyPost_ret (v := .tuple #[.agg #[.string ⟨#[112, 117, 116]⟩, (.func (.func 94) #[] #[]), (.func (.func 95) #[] #[])], .bool true]) (by simp [results, Tryz.results53, go_sem]) rfl ⟨rfl, ((Below.refl _ _).alloc (Nat.le_refl _) _).alloc (by simp) _⟩
theorem of_get (w : World) :
    Calls Tryz.prog 53 #[.int .i64 2] w fun e w' => e = .returned (.tuple #[.agg #[.string ⟨#[103, 101, 116]⟩, (.func (.func 96) #[] #[]), (.func (.func 97) #[] #[])], .bool true]) ∧ Below w.heap.size w w' := by
  go_enter Tryz.func53, Tryz.ntmps53
  go_wp2_with fail
  refine (shapes_any _).mono ?_
  rintro e w1 ⟨rfl, rfl⟩
  go_wp2_with fail
  exact bodyPost_ret (v := .tuple #[.agg #[.string ⟨#[103, 101, 116]⟩, (.func (.func 96) #[] #[]), (.func (.func 97) #[] #[])], .bool true]) (by simp [results, Tryz.results53, go_sem]) rfl ⟨rfl, ((Below.refl _ _).alloc (Nat.le_refl _) _).alloc (by simp) _⟩
theorem of_delete (w : World) :
    Calls Tryz.prog 53 #[.int .i64 3] w fun e w' => e = .returned (.tuple #[.agg #[.string ⟨#[100, 101, 108, 101, 116, 101]⟩, (.func (.func 96) #[] #[]), (.func (.func 97) #[] #[])], .bool true]) ∧ Below w.heap.size w w' := by
  go_enter Tryz.func53, Tryz.ntmps53
  go_wp2_with fail
  refine (shapes_any _).mono ?_
  rintro e w1 ⟨rfl, rfl⟩
  go_wp2_with fail
  exact bodyPost_ret (v := .tuple #[.agg #[.string ⟨#[100, 101, 108, 101, 116, 101]⟩, (.func (.func 96) #[] #[]), (.func (.func 97) #[] #[])], .bool true]) (by simp [results, Tryz.results53, go_sem]) rfl ⟨rfl, ((Below.refl _ _).alloc (Nat.le_refl _) _).alloc (by simp) _⟩
theorem of_sync (w : World) :
    Calls Tryz.prog 53 #[.int .i64 4] w fun e w' => e = .returned (.tuple #[.agg #[.string ⟨#[115, 121, 110, 99]⟩, .nilFunc, .nilFunc], .bool true]) ∧ Below w.heap.size w w' := by
  go_enter Tryz.func53, Tryz.ntmps53
  go_wp2_with fail
  refine (shapes_any _).mono ?_
  rintro e w1 ⟨rfl, rfl⟩
  go_wp2_with fail
  exact bodyPost_ret (v := .tuple #[.agg #[.string ⟨#[115, 121, 110, 99]⟩, .nilFunc, .nilFunc], .bool true]) (by simp [results, Tryz.results53, go_sem]) rfl ⟨rfl, ((Below.refl _ _).alloc (Nat.le_refl _) _).alloc (by simp) _⟩
theorem of_step (w : World) :
    Calls Tryz.prog 53 #[.int .i64 5] w fun e w' => e = .returned (.tuple #[.agg #[.string ⟨#[115, 116, 101, 112]⟩, .nilFunc, .nilFunc], .bool true]) ∧ Below w.heap.size w w' := by
  go_enter Tryz.func53, Tryz.ntmps53
  go_wp2_with fail
  refine (shapes_any _).mono ?_
  rintro e w1 ⟨rfl, rfl⟩
  go_wp2_with fail
  exact bodyPost_ret (v := .tuple #[.agg #[.string ⟨#[115, 116, 101, 112]⟩, .nilFunc, .nilFunc], .bool true]) (by simp [results, Tryz.results53, go_sem]) rfl ⟨rfl, ((Below.refl _ _).alloc (Nat.le_refl _) _).alloc (by simp) _⟩
theorem of_policy (w : World) :
    Calls Tryz.prog 53 #[.int .i64 6] w fun e w' => e = .returned (.tuple #[.agg #[.string ⟨#[112, 111, 108, 105, 99, 121]⟩, (.func (.func 98) #[] #[]), (.func (.func 99) #[] #[])], .bool true]) ∧ Below w.heap.size w w' := by
  go_enter Tryz.func53, Tryz.ntmps53
  go_wp2_with fail
  refine (shapes_any _).mono ?_
  rintro e w1 ⟨rfl, rfl⟩
  go_wp2_with fail
  exact bodyPost_ret (v := .tuple #[.agg #[.string ⟨#[112, 111, 108, 105, 99, 121]⟩, (.func (.func 98) #[] #[]), (.func (.func 99) #[] #[])], .bool true]) (by simp [results, Tryz.results53, go_sem]) rfl ⟨rfl, ((Below.refl _ _).alloc (Nat.le_refl _) _).alloc (by simp) _⟩
theorem of_crash (w : World) :
    Calls Tryz.prog 53 #[.int .i64 7] w fun e w' => e = .returned (.tuple #[.agg #[.string ⟨#[99, 114, 97, 115, 104]⟩, (.func (.func 100) #[] #[]), (.func (.func 101) #[] #[])], .bool true]) ∧ Below w.heap.size w w' := by
  go_enter Tryz.func53, Tryz.ntmps53
  go_wp2_with fail
  refine (shapes_any _).mono ?_
  rintro e w1 ⟨rfl, rfl⟩
  go_wp2_with fail
  exact bodyPost_ret (v := .tuple #[.agg #[.string ⟨#[99, 114, 97, 115, 104]⟩, (.func (.func 100) #[] #[]), (.func (.func 101) #[] #[])], .bool true]) (by simp [results, Tryz.results53, go_sem]) rfl ⟨rfl, ((Below.refl _ _).alloc (Nat.le_refl _) _).alloc (by simp) _⟩
theorem of_reopen (w : World) :
    Calls Tryz.prog 53 #[.int .i64 8] w fun e w' => e = .returned (.tuple #[.agg #[.string ⟨#[114, 101, 111, 112, 101, 110]⟩, .nilFunc, .nilFunc], .bool true]) ∧ Below w.heap.size w w' := by
  go_enter Tryz.func53, Tryz.ntmps53
  go_wp2_with fail
  refine (shapes_any _).mono ?_
  rintro e w1 ⟨rfl, rfl⟩
  go_wp2_with fail
  exact bodyPost_ret (v := .tuple #[.agg #[.string ⟨#[114, 101, 111, 112, 101, 110]⟩, .nilFunc, .nilFunc], .bool true]) (by simp [results, Tryz.results53, go_sem]) rfl ⟨rfl, ((Below.refl _ _).alloc (Nat.le_refl _) _).alloc (by simp) _⟩
theorem of_bad (k : Int) (h : k < 1 ∨ 8 < k) (w : World) :
    Calls Tryz.prog 53 #[.int .i64 k] w fun e w' => e = .returned (.tuple #[.agg #[.string ⟨#[]⟩, .nilFunc, .nilFunc], .bool false]) ∧ Below w.heap.size w w' := by
  rcases h with h | h
  · have d1 : decide (k < 1) = true := by rw [decide_eq_true_iff]; exact h
    clear h
    go_enter Tryz.func53, Tryz.ntmps53
    go_wp2_with fail
    refine (shapes_any _).mono ?_
    rintro e w1 ⟨rfl, rfl⟩
    go_wp2_with fail
    exact bodyPost_ret (v := .tuple #[.agg #[.string ⟨#[]⟩, .nilFunc, .nilFunc], .bool false]) (by simp [results, Tryz.results53, go_sem]) rfl ⟨rfl, ((Below.refl _ _).alloc (Nat.le_refl _) _).alloc (by simp) _⟩
  · have d1 : decide (k < 1) = false := by rw [decide_eq_false_iff_not]; omega
    have d2 : decide (9 ≤ k) = true := by rw [decide_eq_true_iff]; omega
    clear h
    go_enter Tryz.func53, Tryz.ntmps53
    go_wp2_with fail
    refine (shapes_any _).mono ?_
    rintro e w1 ⟨rfl, rfl⟩
    go_wp2_with fail
    exact bodyPost_ret (v := .tuple #[.agg #[.string ⟨#[]⟩, .nilFunc, .nilFunc], .bool false]) (by simp [results, Tryz.results53, go_sem]) rfl ⟨rfl, ((Below.refl _ _).alloc (Nat.le_refl _) _).alloc (by simp) _⟩
set_option maxHeartbeats 1000000 in
theorem word_any (k : Int) (w : World) :
    Calls Tryz.prog 36 #[.int .i64 k] w fun e w' => e = .returned (.string (pack (wordL k))) ∧ Below w.heap.size w w' := by
  by_cases h : k < 1 ∨ 8 < k
  · have HB : Hid (pack (wordL k) = ⟨#[]⟩) := by
      show _ = _
      unfold wordL
      rw [if_neg (by omega), if_neg (by omega), if_neg (by omega), if_neg (by omega), if_neg (by omega), if_neg (by omega), if_neg (by omega), if_neg (by omega)]
      rfl
    have H := Lib.hid h
    clear h
    go_enter Tryz.func36, Tryz.ntmps36
    go_wp2_with fail
    refine (of_bad k H.out _).mono ?_
    rintro e w1 ⟨rfl, b1⟩
    go_wp2_with fail
    go_ret
    exact ⟨by rw [HB.out]; rfl, b1.alloc b1.size _⟩
  · rcases (show k = 1 ∨ k = 2 ∨ k = 3 ∨ k = 4 ∨ k = 5 ∨ k = 6 ∨ k = 7 ∨ k = 8 by omega) with rfl | rfl | rfl | rfl | rfl | rfl | rfl | rfl
    · skip
      go_enter Tryz.func36, Tryz.ntmps36
      go_wp2_with fail
      refine (of_put _).mono ?_
      rintro e w1 ⟨rfl, b1⟩
      go_wp2_with fail
      go_ret
      exact ⟨rfl, b1.alloc b1.size _⟩
    · skip
      go_enter Tryz.func36, Tryz.ntmps36
      go_wp2_with fail
      refine (of_get _).mono ?_
      rintro e w1 ⟨rfl, b1⟩
      go_wp2_with fail
      go_ret
      exact ⟨rfl, b1.alloc b1.size _⟩
    · skip
      go_enter Tryz.func36, Tryz.ntmps36
      go_wp2_with fail
      refine (of_delete _).mono ?_
      rintro e w1 ⟨rfl, b1⟩
      go_wp2_with fail
      go_ret
      exact ⟨rfl, b1.alloc b1.size _⟩
    · skip
      go_enter Tryz.func36, Tryz.ntmps36
      go_wp2_with fail
      refine (of_sync _).mono ?_
      rintro e w1 ⟨rfl, b1⟩
      go_wp2_with fail
      go_ret
      exact ⟨rfl, b1.alloc b1.size _⟩
    · skip
      go_enter Tryz.func36, Tryz.ntmps36
      go_wp2_with fail
      refine (of_step _).mono ?_
      rintro e w1 ⟨rfl, b1⟩
      go_wp2_with fail
      go_ret
      exact ⟨rfl, b1.alloc b1.size _⟩
    · skip
      go_enter Tryz.func36, Tryz.ntmps36
      go_wp2_with fail
      refine (of_policy _).mono ?_
      rintro e w1 ⟨rfl, b1⟩
      go_wp2_with fail
      go_ret
      exact ⟨rfl, b1.alloc b1.size _⟩
    · skip
      go_enter Tryz.func36, Tryz.ntmps36
      go_wp2_with fail
      refine (of_crash _).mono ?_
      rintro e w1 ⟨rfl, b1⟩
      go_wp2_with fail
      go_ret
      exact ⟨rfl, b1.alloc b1.size _⟩
    · skip
      go_enter Tryz.func36, Tryz.ntmps36
      go_wp2_with fail
      refine (of_reopen _).mono ?_
      rintro e w1 ⟨rfl, b1⟩
      go_wp2_with fail
      go_ret
      exact ⟨rfl, b1.alloc b1.size _⟩
set_option maxHeartbeats 1000000 in
theorem rword_any (k : Int) (w : World) :
    Calls Tryz.prog 37 #[.int .i64 k] w fun e w' => e = .returned (.string (pack (wordL k))) ∧ Below w.heap.size w w' := by
  by_cases h : k < 1 ∨ 8 < k
  · have HB : Hid (pack (wordL k) = ⟨#[]⟩) := by
      show _ = _
      unfold wordL
      rw [if_neg (by omega), if_neg (by omega), if_neg (by omega), if_neg (by omega), if_neg (by omega), if_neg (by omega), if_neg (by omega), if_neg (by omega)]
      rfl
    rcases h with h | h
    · have d1 : decide (k < 1) = true := by rw [decide_eq_true_iff]; exact h
      clear h
      go_enter Tryz.func37, Tryz.ntmps37
      go_wp2_with fail
      go_ret
      exact ⟨by rw [HB.out]; rfl, (Below.refl _ _).alloc (Nat.le_refl _) _⟩
    · have d1 : decide (k < 1) = false := by rw [decide_eq_false_iff_not]; omega
      have d2 : decide (8 < k) = true := by rw [decide_eq_true_iff]; omega
      clear h
      go_enter Tryz.func37, Tryz.ntmps37
      go_wp2_with fail
      go_ret
      exact ⟨by rw [HB.out]; rfl, (Below.refl _ _).alloc (Nat.le_refl _) _⟩
  · rcases (show k = 1 ∨ k = 2 ∨ k = 3 ∨ k = 4 ∨ k = 5 ∨ k = 6 ∨ k = 7 ∨ k = 8 by omega) with rfl | rfl | rfl | rfl | rfl | rfl | rfl | rfl
    all_goals
      go_enter Tryz.func37, Tryz.ntmps37
      go_wp2_with fail
      go_ret
      exact ⟨rfl, (Below.refl _ _).alloc (Nat.le_refl _) _⟩
def updB (k : Int) : Bool := decide (k = 1 ∨ k = 3)
theorem update_any (k : Int) (w : World) :
    Calls Tryz.prog 38 #[.int .i64 k] w fun e w' => e = .returned (.bool (updB k)) ∧ w = w' := by
  by_cases h1 : k = 1
  · subst h1
    go_enter Tryz.func38, Tryz.ntmps38
    go_wp2_with fail
    go_ret
    exact ⟨rfl, rfl⟩
  · have d1 : (k == 1) = false := beq_false_of_ne h1
    by_cases h3 : k = 3
    · subst h3
      go_enter Tryz.func38, Tryz.ntmps38
      go_wp2_with fail
      go_ret
      exact ⟨rfl, rfl⟩
    · have d3 : (k == 3) = false := beq_false_of_ne h3
      have HB : Hid (updB k = false) := by show decide _ = _; rw [decide_eq_false_iff_not]; omega
      clear h1 h3
      go_enter Tryz.func38, Tryz.ntmps38
      go_wp2_with fail
      go_ret
      exact ⟨by rw [HB.out]; rfl, rfl⟩
theorem rupdate_any (k : Int) (w : World) :
    Calls Tryz.prog 39 #[.int .i64 k] w fun e w' => e = .returned (.bool (updB k)) ∧ w = w' := by
  by_cases h1 : k = 1
  · subst h1
    go_enter Tryz.func39, Tryz.ntmps39
    go_wp2_with fail
    go_ret
    exact ⟨rfl, rfl⟩
  · have d1 : (k == 1) = false := beq_false_of_ne h1
    by_cases h3 : k = 3
    · subst h3
      go_enter Tryz.func39, Tryz.ntmps39
      go_wp2_with fail
      go_ret
      exact ⟨rfl, rfl⟩
    · have d3 : (k == 3) = false := beq_false_of_ne h3
      have HB : Hid (updB k = false) := by show decide _ = _; rw [decide_eq_false_iff_not]; omega
      clear h1 h3
      go_enter Tryz.func39, Tryz.ntmps39
      go_wp2_with fail
      go_ret
      exact ⟨by rw [HB.out]; rfl, rfl⟩
end Go.Proofs.YtlmbcclggaflaaaGreatDoor
namespace Go.Proofs.YtlmbcclggaflaaaGreatDoor
open Go Go.RowKit

theorem index_none {l : List UInt8} {c : UInt8} (h : ∀ b ∈ l, b ≠ c) : Lib.indexByte l c = -1 := by
  induction l with
  | nil => rfl
  | cons b r ih =>
    have h1 : (b == c) = false := by simpa using h b (by simp)
    have h2 := ih fun x hx => h x (by simp [hx])
    simp [Lib.indexByte, h1, h2]
def allAscii (l : List UInt8) : Prop := ∀ b ∈ l, b.toNat < 128
theorem iter_below (w : World) (s : ByteArray) (pos : Nat) : Below w.heap.size w (w.iter s pos) := (Below.refl _ _).alloc (Nat.le_refl _) _

set_option maxRecDepth 100000 in
set_option maxHeartbeats 8000000 in
theorem indexRune_err (s : ByteArray) (hs : allAscii s.data.toList) (hz : s.size ≤ 1099511627776) (w : World) :
    Calls Tryz.prog 155 #[.string s, .int .i32 65533] w fun e w' => e = .returned (.int .i64 (-1)) ∧ Below w.heap.size w w' := by
  have HS := Lib.hid hs; clear hs
  go_enter Tryz.func155, Tryz.ntmps155
  go_wp2_with fail
  go_loopw [5] (fun _ wr => ∃ pos : Nat, pos ≤ s.size ∧ wr = w.iter s pos) (fun _ wr => s.size - wr.iterPos w.heap.size)
  case atStart => exact ⟨0, Nat.zero_le _, rfl⟩
  case round =>
    obtain ⟨pos, hp, rfl⟩ := hrel
    by_cases hlt : pos < s.size
    · have ha : (s[pos]'hlt).toNat < 128 := HS.out _ (Array.getElem_mem_toList (xs := s.data) hlt)
      have hnx := fun ty => run_next_ascii (P := Tryz.prog) w s pos ty hlt ha
      have hne : (((s[pos]'hlt).toNat : Int) == 65533) = false := by rw [beq_eq_false_iff_ne]; omega
      generalize (s[pos]'hlt).toNat = x at *
      go_wp2_with fail
      go_roundw
      case rel => exact ⟨pos + 1, by omega, rfl⟩
      case measure => simp; omega
    · have hnx := fun ty => run_next_end (P := Tryz.prog) w s pos ty hlt
      go_wp2_with fail
      go_ret
      exact ⟨rfl, iter_below _ _ _⟩

set_option maxRecDepth 100000 in
set_option maxHeartbeats 8000000 in
theorem indexRune_bad (s : ByteArray) (r : Int) (h0 : 128 ≤ r) (d1 : (r == 65533) = false) (hv : Lib.validRune r = false) (w : World) :
    Calls Tryz.prog 155 #[.string s, .int .i32 r] w fun e w' => e = .returned (.int .i64 (-1)) ∧ Below w.heap.size w w' := by
  have HV := Lib.hid hv; clear hv
  go_enter Tryz.func155, Tryz.ntmps155
  go_wp2_with fail
  refine (Tryz.utf8_ValidRune r _).mono ?_
  rw [HV.out]
  rintro e w' ⟨rfl, rfl⟩
  go_wp2_with fail
  go_ret
  exact ⟨rfl, Below.refl _ _⟩

theorem ixb (s : ByteArray) (x : UInt8) (w : World) :
    Calls Tryz.prog 163 #[.string s, .int .u8 (x.toNat : Int)] w fun e w' => e = .returned (.int .i64 (Lib.indexByte s.data.toList x)) ∧ w' = w := by
  have h := Tryz.strings_IndexByte s (x.toNat : Int) w
  rw [show ((x.toNat : Int)).toNat.toUInt8 = x by simp] at h
  exact h
set_option maxRecDepth 100000 in
set_option maxHeartbeats 8000000 in
theorem indexRune_far (s : ByteArray) (r : Int) (h0 : 128 ≤ r) (d1 : (r == 65533) = false) (hv : Lib.validRune r = true) (hs : allAscii s.data.toList) (h4 : 4 ≤ s.size) (hz : s.size ≤ 1099511627776) (w : World) :
    Calls Tryz.prog 155 #[.string s, .int .i32 r] w fun e w' => e = .returned (.int .i64 (-1)) ∧ Below w.heap.size w w' := by
  have HV := Lib.hid hv
  have he := encode_facts r (by rw [validRune_eq]; exact hv) h0
  clear hv
  obtain ⟨E, hE⟩ : ∃ E, Utf8.encode r = E := ⟨_, rfl⟩
  rw [hE] at he
  obtain ⟨he2, he4, helast⟩ := he
  obtain ⟨n, hn⟩ : ∃ n, E.size = n + 1 := ⟨E.size - 1, by omega⟩
  obtain ⟨x, hx⟩ : ∃ x : UInt8, E.data.toList.getD n 0 = x := ⟨_, rfl⟩
  have hx128 : 128 ≤ x.toNat := by
    have h := helast (by omega)
    simp only [hn, Nat.add_sub_cancel] at h
    rw [← hx, str_getD E n (by omega)]; exact h
  obtain ⟨y, hy⟩ : ∃ y : UInt8, s.data.toList.getD n 0 = y := ⟨_, rfl⟩
  have hy128 : y.toNat < 128 := by
    have hlt : n < s.data.toList.length := by rw [str_len]; omega
    have e : s.data.toList.getD n 0 = s.data.toList[n] := by rw [List.getD, List.getElem?_eq_getElem hlt]; rfl
    rw [← hy, e]; exact hs _ (List.getElem_mem _)
  have i1 := run_str_at (P := Tryz.prog) E 9 Tryz.underlying9 .i64 (n : Int) n rfl (by omega) x hx.symm
  have i2 := run_str_at (P := Tryz.prog) s 9 Tryz.underlying9 .i64 (n : Int) n rfl (by omega) y hy.symm
  have hne : ((y.toNat : Int) != (x.toNat : Int)) = true := by rw [bne_iff_ne]; omega
  have HX : Hid (∀ e, Lib.indexByte (s.extract (n + 1) e).data.toList x = -1) := fun e => index_none fun b hb hbx => by
    have := hs b (mem_extract hb)
    rw [hbx] at this
    omega
  have hx256 : x.toNat < 256 := x.toNat_lt
  have hn3 : n ≤ 3 := by omega
  have d2 : decide (r < 128) = false := by rw [decide_eq_false_iff_not]; omega
  have d3 : decide ((n : Int) < (s.size : Int)) = true := by rw [decide_eq_true_iff]; omega
  clear he2 he4 helast hx hy hs
  have isl : ∀ wx, (Instr.slice 9 (.string s) (some (.int .i64 ((n : Int) + 1))) none none).run Tryz.prog wx = .ok (.string (s.extract (n + 1) s.size)) wx := fun wx => by
    rw [run_slice_string_l wx 9 s Tryz.underlying9 .i64 ((n : Int) + 1) (by omega) (by omega), show ((n : Int) + 1).toNat = n + 1 by omega]
  have HE := Lib.hid hE
  go_enter Tryz.func155, Tryz.ntmps155
  go_wp2_with fail
  refine (keeps (Tryz.utf8_ValidRune r _)).mono ?_
  rw [HV.out]
  rintro e w' ⟨rfl, rfl⟩
  go_wp2_with fail
  go_step3
  go_wp2_with fail
  go_loopw [9, 10] (fun vi vf wr => vi = .int .i64 n ∧ vf = .int .i64 0 ∧ wr = w) (fun _ _ _ => 0)
  case atStart => exact ⟨rfl, rfl, rfl⟩
  case round =>
    obtain ⟨rfl, rfl, rfl⟩ := hrel
    go_wp2_with fail
    go_step3
    go_wp2_with fail
    go_quiet (fail)
    have hb2 : Below wr.heap.size wr (wr.drewN nq) := ⟨rfl, rfl, rfl, Nat.le_refl _, fun _ _ => rfl⟩
    generalize wr.drewN nq = w2 at *
    go_wp2_with fail
    have hsum : IntKind.i64.wrap ((n : Int) + 1) = (n : Int) + 1 := IntWalk.i64_in _ (by omega)
    go_quiet ((go_at_call 163; exact Calls.quiet_of_same (ixb _ _ _)))
    clear hsum
    rw [HX.out]
    go_wp2_with fail
    have c2 : Below wr.heap.size wr (w2.drewN nq) := hb2.trans ⟨rfl, rfl, rfl, Nat.le_refl _, fun _ _ => rfl⟩
    rw [Exit.noGoto_ret]
    go_simp
    rename Exit → Act → World → Prop => Q2
    simp only [Q2]
    go_simp
    try rw [Exit.noGoto_ret]
    try go_simp
    go_ret
    exact ⟨rfl, c2⟩

theorem indexRune_high (s : ByteArray) (r : Int) (h0 : 128 ≤ r) (hs : allAscii s.data.toList) (h4 : 4 ≤ s.size) (hz : s.size ≤ 1099511627776) (w : World) :
    Calls Tryz.prog 155 #[.string s, .int .i32 r] w fun e w' => e = .returned (.int .i64 (-1)) ∧ Below w.heap.size w w' := by
  by_cases h : r = 65533
  · subst h; exact indexRune_err s hs hz w
  · have d1 : (r == 65533) = false := by rw [beq_eq_false_iff_ne]; exact h
    rcases hv : Lib.validRune r with _ | _
    · exact indexRune_bad s r h0 d1 hv w
    · exact indexRune_far s r h0 d1 hv hs h4 hz w
theorem containsRune_high (s : ByteArray) (r : Int) (h0 : 128 ≤ r) (hs : allAscii s.data.toList) (h4 : 4 ≤ s.size) (hz : s.size ≤ 1099511627776) (w : World) :
    Calls Tryz.prog 143 #[.string s, .int .i32 r] w fun e w' => e = .returned (.bool false) ∧ Below w.heap.size w w' := by
  have HS := Lib.hid hs; clear hs
  go_enter Tryz.func143, Tryz.ntmps143
  go_wp2_with fail
  refine (indexRune_high s r h0 HS.out h4 hz _).mono ?_
  rintro e w' ⟨rfl, b1⟩
  go_wp2_with fail
  go_ret
  exact ⟨rfl, b1⟩
end Go.Proofs.YtlmbcclggaflaaaGreatDoor
namespace Go.Proofs.YtlmbcclggaflaaaGreatDoor
open Go Go.RowKit

theorem below_drewW (w : World) (k : Nat) : Below w.heap.size w (w.drewN k) := ⟨rfl, rfl, rfl, Nat.le_refl _, fun _ _ => rfl⟩
theorem keyS_ascii : allAscii keyS.data.toList := by
  rw [keyS_list]
  intro b hb
  revert b
  decide
theorem contains_at (r : Int) (h0 : 0 ≤ r) (h1 : r < 128) (x : Bool) (hx : isKey r.toNat.toUInt8 = x) (w : World) :
    Calls Tryz.prog 143 #[.string keyS, .int .i32 r] w fun e w' => e = .returned (.bool x) ∧ w = w' := by
  have h := Tryz.strings_ContainsRune_ascii keyS r w h0 h1
  rw [keyS_list] at h
  have e : decide (0 ≤ Lib.indexByte keyL r.toNat.toUInt8) = x := hx
  rw [e] at h
  exact keeps h

set_option maxHeartbeats 2000000 in
theorem kcheck_any (s : ByteArray) (hz : s.size ≤ 1099511627776) (w : World) :
    Calls Tryz.prog 123 #[.string s] w fun e w' => e = .returned (.int .i64 (keyV s.data.toList)) ∧ Below w.heap.size w w' := by
  have hlen : s.data.toList.length = s.size := str_len s
  go_enter Tryz.func123, Tryz.ntmps123
  go_wp2_with fail
  go_loopw [4] (fun _ wr => ∃ pos : Nat, pos ≤ s.size ∧ wr = w.iter s pos ∧ Hid (∀ j, j < pos → isKey (s.data.toList.getD j 0) = true)) (fun _ wr => s.size - wr.iterPos w.heap.size)
  case atStart => exact ⟨0, Nat.zero_le _, rfl, fun j hj => absurd hj (Nat.not_lt_zero _)⟩
  case round =>
    obtain ⟨pos, hp, rfl, hk⟩ := hrel
    by_cases hlt : pos < s.size
    · obtain ⟨c, hc⟩ : ∃ c, s.data.toList.getD pos 0 = c := ⟨_, rfl⟩
      have hcs : s[pos]'hlt = c := by rw [← hc, str_getD s pos hlt]
      by_cases ha : c.toNat < 128
      · have hnx := fun ty => run_next_ascii (P := Tryz.prog) w s pos ty hlt (by rw [hcs]; exact ha)
        rw [hcs] at hnx
        have hct : ((c.toNat : Int)).toNat.toUInt8 = c := by simp
        rcases hx : isKey c with _ | _
        · have HB := Lib.hid (keyV_bad (all_bad (l := s.data.toList) (p := isKey) pos (by omega) (by rw [hc]; exact hx)))
          have HX : Hid (isKey ((c.toNat : Int)).toNat.toUInt8 = false) := by show _ = _; rw [hct]; exact hx
          clear hc hcs hx hct hk
          go_wp2_with fail
          refine (contains_at _ (by omega) (by omega) _ HX.out _).mono ?_
          rintro e w' ⟨rfl, rfl⟩
          go_wp2_with fail
          go_ret
          exact ⟨by rw [HB.out]; rfl, iter_below _ _ _⟩
        · have HX : Hid (isKey ((c.toNat : Int)).toNat.toUInt8 = true) := by show _ = _; rw [hct]; exact hx
          have HK : Hid (∀ j, j < pos + 1 → isKey (s.data.toList.getD j 0) = true) := by
            intro j hj
            by_cases h : j < pos
            · exact hk.out j h
            · obtain rfl : j = pos := by omega
              rw [hc]; exact hx
          clear hc hcs hx hct hk
          go_wp2_with fail
          refine (contains_at _ (by omega) (by omega) _ HX.out _).mono ?_
          rintro e w' ⟨rfl, rfl⟩
          go_wp2_with fail
          go_roundw
          case rel => exact ⟨pos + 1, by omega, rfl, HK⟩
          case measure => simp; omega
      · have hnx := fun ty => run_next_any (P := Tryz.prog) w s pos ty hlt
        have hd := decode_high s pos hlt (by rw [hcs]; omega)
        have hx : isKey c = false := by
          rcases h : isKey c with _ | _
          · rfl
          · exact absurd (isKey_facts h).1 ha
        have HB := Lib.hid (keyV_bad (all_bad (l := s.data.toList) (p := isKey) pos (by omega) (by rw [hc]; exact hx)))
        have hd2 := hd.1
        clear hc hcs hx hk
        obtain ⟨p2, hp2⟩ : ∃ p2, Utf8.decode s pos = p2 := ⟨_, rfl⟩
        obtain ⟨r, step⟩ := p2
        rw [hp2] at hnx hd2
        clear hp2 hd
        simp only at hnx hd2
        have HR : Hid (128 ≤ r) := hd2
        clear hd2
        go_wp2_with fail
        refine (containsRune_high keyS (r : Int) (by have := HR.out; omega) keyS_ascii (by decide) (by decide) _).mono ?_
        rintro e w' ⟨rfl, b1⟩
        have c1 := (iter_below w s (pos + step)).trans (b1.mono (by simp [World.iter]))
        clear b1
        go_wp2_with fail
        go_ret
        exact ⟨by rw [HB.out]; rfl, c1⟩
    · obtain rfl : pos = s.size := by omega
      have hnx := fun ty => run_next_end (P := Tryz.prog) w s s.size ty hlt
      have HA : Hid (s.data.toList.all isKey = true) := all_of fun j hj => hk.out j (by omega)
      clear hk
      by_cases h0 : s.size = 0
      · have e1 : s.toList.isEmpty = true := by rw [ByteArray.toList_eq]; simpa using (List.eq_nil_of_length_eq_zero (by omega : s.data.toList.length = 0))
        have HB := Lib.hid (keyV_empty (l := s.data.toList) (by omega))
        clear hlt hp hlen h0
        go_wp2_with fail
        go_ret
        exact ⟨by rw [HB.out]; rfl, iter_below _ _ _⟩
      · have e1 : s.toList.isEmpty = false := by
          rw [ByteArray.toList_eq, List.isEmpty_eq_false_iff]
          intro h
          rw [h] at hlen
          simp at hlen
          omega
        by_cases h2 : 32 < s.size
        · have d1 : decide ((32 : Int) < (s.size : Int)) = true := by rw [decide_eq_true_iff]; omega
          have HB := Lib.hid (keyV_large HA.out (by omega))
          clear h2 hlt hlen h0
          go_wp2_with fail
          go_ret
          exact ⟨by rw [HB.out]; rfl, iter_below _ _ _⟩
        · have d1 : decide ((32 : Int) < (s.size : Int)) = false := by rw [decide_eq_false_iff_not]; omega
          have HB := Lib.hid (keyV_ok HA.out (by omega) (by omega))
          clear h2 hlt hlen h0
          go_wp2_with fail
          go_ret
          exact ⟨by rw [HB.out]; rfl, iter_below _ _ _⟩
end Go.Proofs.YtlmbcclggaflaaaGreatDoor
namespace Go.Proofs.YtlmbcclggaflaaaGreatDoor
open Go Go.RowKit

theorem infoU8 : (Tryz.prog.info? 5).map (fun i => (i.zero, i.size, i.bytes)) = some (some (.int .u8 0), 1, 1) := by kernel_rfl

set_option maxRecDepth 100000 in
/-- The sixteen digits, indexed. -/
theorem run_digit (k : IntKind) (n : Int) (h0 : 0 ≤ n) (h : n < 16) (wx : World) : (Instr.index 9 (.string ⟨#[48, 49, 50, 51, 52, 53, 54, 55, 56, 57, 97, 98, 99, 100, 101, 102]⟩) (.int k n)).run Tryz.prog wx = .ok (.int .u8 ((hexD n.toNat).toNat : Int)) wx := by
  have hc : n = 0 ∨ n = 1 ∨ n = 2 ∨ n = 3 ∨ n = 4 ∨ n = 5 ∨ n = 6 ∨ n = 7 ∨ n = 8 ∨ n = 9 ∨ n = 10 ∨ n = 11 ∨ n = 12 ∨ n = 13 ∨ n = 14 ∨ n = 15 := by omega
  rcases hc with rfl | rfl | rfl | rfl | rfl | rfl | rfl | rfl | rfl | rfl | rfl | rfl | rfl | rfl | rfl | rfl <;> rfl

set_option maxRecDepth 100000 in
set_option maxHeartbeats 1000000 in
theorem hex_any (v : Value) (l : List UInt8) (w : World) (hv : BytesAt w v l) (hl : l.length ≤ 35184372088832) :
    Calls Tryz.prog 141 #[v] w fun e w' => e = .returned (.string ⟨(hexL l).toArray⟩) ∧ Below w.heap.size w w' := by
  obtain ⟨i0, hi, hz0, hz1, hz2⟩ := info_parts infoU8
  obtain ⟨p, c, rfl, hc, hp⟩ := hv
  go_enter Tryz.func141, Tryz.ntmps141
  have hB : w.heap.size ≤ w.heap.size := Nat.le_refl _
  go_wp2_with (at_make; refine wpList_make_own _ rfl _ _ 23 rfl w.heap.size 5 i0 (.int .u8 0) 1 Tryz.underlying23 hi hz0 hz1 .i64 .i64 (2 * (l.length : Int)) (2 * l.length) rfl rfl ?c0 ?c1 ?c2 ?c3 ?_)
  case c0 => omega
  case c1 => rw [hz2]; omega
  case c2 => unfold maxLen; omega
  case c3 => exact Nat.le_refl _
  intro w1 hown hgrow
  have hb1 : Below w.heap.size w w1 := (Below.refl _ _).grown hgrow (Nat.le_refl _) (fun k hk => by cases hk)
  clear hgrow
  have hown' : Hid (w1.ownsRow w.heap.size 5 1 (.slice (some ⟨w.heap.size, 0, none⟩) 0 (2 * l.length)) 0 []) := hown
  clear hown
  go_wp2
  go_loopw [3, 12] (fun vo vi wr => ∃ k : Nat, k ≤ l.length ∧ vi = .int .i64 k ∧ Hid (wr.ownsRow w.heap.size 5 1 vo (hexL (l.take k)).length (Lib.byteCells (hexL (l.take k)))) ∧ Below w.heap.size w wr) (fun _ vi _ => l.length - (intOf vi).toNat)
  case atStart => exact ⟨0, Nat.zero_le _, rfl, hown', hb1⟩
  case round =>
    obtain ⟨k, hk, rfl, hr, hbr⟩ := hrel
    clear hown' hb1
    by_cases hlt : k < l.length
    · obtain ⟨b, o, rfl, hcell⟩ := hp (by omega)
      obtain ⟨x, hx⟩ : ∃ x : UInt8, x = l.getD k 0 := ⟨_, rfl⟩
      have hck : wr.cell? ⟨b, o + k, none⟩ = some (.int .u8 (x.toNat : Int)) := by
        rw [hbr.cell (p := ⟨b, o + k, none⟩) (World.block_lt_of_cell? w _ (hcell k hlt)), hcell k hlt, hx]
      have HX := Lib.hid hx
      clear hx hcell hp
      have hx8 : x.toNat < 256 := x.toNat_lt
      have i1 := run_digit .u8 ((x.toNat : Int) / 16) (by omega) (by omega)
      have i2 := run_digit .u8 ((x.toNat : Int) % 16) (by omega) (by omega)
      have hand := u8_and15 (x := (x.toNat : Int)) (by omega) (by omega)
      go_wp2
      have hnle : (hexL (l.take k)).length ≤ 2 * k := by rw [hexL_length, List.length_take]; omega
      go_region_law (refine step_append_lies _ rfl (.tmp 16) (.tmp 23) 23 rfl w.heap.size 5 i0 (.int .u8 0) 1 1 Tryz.underlying23 hi hz0 hz1 hz2 rfl (by decide) u3 _ _ rfl ((hr.out.alloc _).drew) ⟨wr.heap.size, 0, none⟩ 2 2 [.int .u8 ((hexD ((x.toNat : Int) / 16).toNat).toNat : Int), .int .u8 ((hexD ((x.toNat : Int) % 16).toNat).toNat : Int)] rfl rfl (World.news_of_block (cs := #[.int .u8 ((hexD ((x.toNat : Int) / 16).toNat).toNat : Int), .int .u8 ((hexD ((x.toNat : Int) % 16).toNat).toNat : Int)]) (t := 5) (fr := (0, 0)) (heap_alloc_new wr _)) (by intro u hu; simp at hu; rcases hu with rfl | rfl <;> rfl) (by decide) (by unfold maxLen; omega) (by omega) (by have := hbr.size; simp; omega) _ rfl ?_; intro g cap w2 hown2 hgrow2 hgc hlt2)
      all_goals
        go_wp2
        go_roundw
        case rel => exact ⟨k + 1, by omega, by go_num, Lib.hid (owns_hex hlt HX.out hown2), ((hbr.alloc hbr.size _).drew).grown hgrow2 (by have := hbr.size; simp; omega) (fun j hj => (hr.out.lt j hj).1)⟩
        case measure => simp [intOf]; omega
    · have hkl : l.take k = l := List.take_of_length_le (by omega)
      have hcv := fun (wx : World) (hx : BytesAt wx u3 (hexL (l.take k))) => hx.convert (P := Tryz.prog) 23 9 5 Tryz.underlying23 Tryz.underlying5 Tryz.underlying9
      rw [hkl] at hcv
      have hr2 := hr.out
      rw [hkl] at hr2
      have hcv2 := hcv wr (BytesAt.of_owns hr2)
      clear hcv hr2 hkl
      go_wp2
      go_ret
      exact ⟨rfl, hbr⟩

theorem nibble_any (c : Int) (w : World) (h0 : 0 ≤ c) (h1 : c < 256) :
    Calls Tryz.prog 154 #[.int .u8 c] w fun e w' => e = .returned (.int .i64 (nib c)) ∧ w' = w := by
  rcases (show c < 48 ∨ (48 ≤ c ∧ c ≤ 57) ∨ (57 < c ∧ c < 97) ∨ (97 ≤ c ∧ c ≤ 102) ∨ 102 < c by omega) with h | ⟨h, h'⟩ | ⟨h, h'⟩ | ⟨h, h'⟩ | h
  all_goals
    go_enter Tryz.func154, Tryz.ntmps154
    go_wp2
    go_ret
    exact ⟨ret_int (by unfold nib; repeat (first | split | omega)), rfl⟩

/-- What ParseHex gives: the bytes, or nil and ErrForm. -/
def HexParsed (w : World) (l : List UInt8) (v1 v2 : Value) : Prop :=
  (unhex l = none ∧ v1 = .slice none 0 0 ∧ v2 = .int .i64 8) ∨ (∃ t, unhex l = some t ∧ BytesAt w v1 t ∧ v2 = .int .i64 0)

set_option maxRecDepth 100000 in
set_option maxHeartbeats 1000000 in
theorem parseHex_any (s : ByteArray) (w : World) (hl : s.size ≤ 35184372088832) :
    Calls Tryz.prog 142 #[.string s] w fun e w' => ∃ v1 v2, e = .returned (.tuple #[v1, v2]) ∧ HexParsed w' s.data.toList v1 v2 ∧ Below w.heap.size w w' := by
  obtain ⟨i0, hi, hz0, hz1, hz2⟩ := info_parts infoU8
  by_cases hodd : s.size % 2 = 1
  · have hn : unhex s.data.toList = none := unhex_odd _ (by rw [str_len]; exact hodd)
    have h1 : ((s.size : Int) % 2 != 0) = true := by rw [bne_iff_ne]; omega
    clear hodd
    have HN := Lib.hid hn; clear hn
    go_enter Tryz.func142, Tryz.ntmps142
    go_wp2
    go_ret2
    exact ⟨_, _, rfl, Or.inl ⟨HN.out, rfl, rfl⟩, Below.refl _ _⟩
  · have h1 : ((s.size : Int) % 2 != 0) = false := by rw [bne_eq_false_iff_eq]; omega
    have HE : Hid (s.size % 2 = 0) := by show s.size % 2 = 0; omega
    clear hodd
    go_enter Tryz.func142, Tryz.ntmps142
    go_wp2_with (at_make; refine wpList_make_own _ rfl _ _ 23 rfl w.heap.size 5 i0 (.int .u8 0) 1 Tryz.underlying23 hi hz0 hz1 .i64 .i64 ((s.size : Int) / 2) (s.size / 2) rfl rfl ?c0 ?c1 ?c2 ?c3 ?_)
    case c0 => omega
    case c1 => rw [hz2]; omega
    case c2 => unfold maxLen; omega
    case c3 => exact Nat.le_refl _
    intro w1 hown hgrow
    have hb1 : Below w.heap.size w w1 := (Below.refl _ _).grown hgrow (Nat.le_refl _) (fun k hk => by cases hk)
    clear hgrow
    have hown' : Hid (w1.ownsRow w.heap.size 5 1 (.slice (some ⟨w.heap.size, 0, none⟩) 0 (s.size / 2)) 0 []) := hown
    clear hown
    go_wp2_with fail
    go_loopw [4, 5] (fun vo vi wr => ∃ (j : Nat) (acc : List UInt8), j ≤ s.size ∧ vi = .int .i64 j ∧ Hid (j % 2 = 0) ∧ Hid (unhex (s.data.toList.take j) = some acc) ∧ Hid (wr.ownsRow w.heap.size 5 1 vo acc.length (Lib.byteCells acc)) ∧ Below w.heap.size w wr) (fun _ vi _ => s.size - (intOf vi).toNat)
    case atStart => exact ⟨0, [], Nat.zero_le _, rfl, rfl, rfl, hown', hb1⟩
    case round =>
      obtain ⟨j, acc, hj, rfl, hj2, hacc, hr, hbr⟩ := hrel
      clear hown' hb1
      have HL := Lib.hid (str_len s)
      by_cases hlt : j < s.size
      · have hlt2 : j + 1 < s.size := by have := hj2.out; have := HE.out; omega
        obtain ⟨x, hx⟩ : ∃ x : UInt8, x = s[j] := ⟨_, rfl⟩
        obtain ⟨y, hy⟩ : ∃ y : UInt8, y = s[j + 1] := ⟨_, rfl⟩
        have HX : Hid (x = s.data.toList.getD j 0) := by show x = _; rw [str_getD s j hlt]; exact hx
        have HY : Hid (y = s.data.toList.getD (j + 1) 0) := by show y = _; rw [str_getD s (j + 1) hlt2]; exact hy
        have ix := hx.symm
        have iy := hy.symm
        clear hx hy
        have hx8 : x.toNat < 256 := x.toNat_lt
        have hy8 : y.toNat < 256 := y.toNat_lt
        have hxr := nib_range (x.toNat : Int)
        have hyr := nib_range (y.toNat : Int)
        by_cases hxa : nib (x.toNat : Int) < 0
        · have hstop : Hid (unhex s.data.toList = none) := unhex_stopj _ j hj2.out (by rw [HL.out]; exact hlt2) (by rw [← HX.out, ← HY.out]; exact pairBad_true (Or.inl hxa))
          clear hacc hr HX HY
          go_wp2_with fail
          go_quiet ((go_at_call 154; exact Calls.quiet_of_same (nibble_any _ _ (by omega) (by omega))))
          go_wp2
          go_ret2
          exact ⟨_, _, rfl, Or.inl ⟨hstop.out, rfl, rfl⟩, below_drewN hbr _⟩
        · by_cases hya : nib (y.toNat : Int) < 0
          · have hstop : Hid (unhex s.data.toList = none) := unhex_stopj _ j hj2.out (by rw [HL.out]; exact hlt2) (by rw [← HX.out, ← HY.out]; exact pairBad_true (Or.inr hya))
            clear hacc hr HX HY
            go_wp2_with fail
            go_quiet ((go_at_call 154; exact Calls.quiet_of_same (nibble_any _ _ (by omega) (by omega))))
            go_wp2
            go_ret2
            exact ⟨_, _, rfl, Or.inl ⟨hstop.out, rfl, rfl⟩, below_drewN hbr _⟩
          · have hor := or_pair (a := x) (b := y) (by omega) (by omega) (by omega) (by omega)
            have hp8 : (pairByte x y).toNat < 256 := (pairByte x y).toNat_lt
            have hst : Hid (unhex (s.data.toList.take (j + 2)) = some (acc ++ [pairByte x y])) := by
              have := unhex_stepj _ acc j hj2.out (by rw [HL.out]; exact hlt2) hacc.out (by rw [← HX.out, ← HY.out]; exact pairBad_false (by omega) (by omega))
              rw [← HX.out, ← HY.out] at this
              exact this
            have hal : acc.length ≤ s.size := by
              have := unhex_length _ _ hacc.out
              rw [List.length_take] at this
              have := HL.out
              omega
            clear HX HY hacc
            go_wp2_with fail
            go_quiet ((go_at_call 154; exact Calls.quiet_of_same (nibble_any _ _ (by omega) (by omega))))
            go_wp2_with (at_builtin; refine wpList_append_lies _ rfl (.tmp 37) (.tmp 43) 23 rfl w.heap.size 5 i0 (.int .u8 0) 1 1 Tryz.underlying23 hi hz0 hz1 hz2 rfl (by decide) u4 acc.length (Lib.byteCells acc) rfl (World.ownsRow.alloc (w := World.drewN wr _) hr.out _) ⟨wr.heap.size, 0, none⟩ 1 1 [.int .u8 ((pairByte x y).toNat : Int)] rfl rfl (World.news_of_block (cs := #[.int .u8 ((pairByte x y).toNat : Int)]) (t := 5) (fr := (0, 0)) (heap_alloc_new (World.drewN wr _) _)) (fun u hu => by simp at hu; subst hu; rfl) (by decide) (by unfold maxLen; omega) (by omega) (by have := hbr.size; simp; omega) _ rfl ?_)
            intro g cap w2 hown2 hgrow2 hgc hlt2
            go_wp2
            go_roundw
            case rel => exact ⟨j + 2, acc ++ [pairByte x y], by omega, by go_num, by have := hj2.out; show (j + 2) % 2 = 0; omega, hst, Lib.hid (owns_snoc hown2), ((below_drewN hbr _).alloc hbr.size _).grown hgrow2 (by have := hbr.size; simp; omega) (fun i hi => (hr.out.lt i hi).1)⟩
            case measure => simp [intOf]; omega
      · have hjs : s.data.toList.take j = s.data.toList := List.take_of_length_le (by have := HL.out; omega)
        have ha2 := hacc.out
        rw [hjs] at ha2
        have hres : Hid (HexParsed wr s.data.toList u4 (.int .i64 0)) := Or.inr ⟨acc, ha2, BytesAt.of_owns hr.out, rfl⟩
        clear hjs ha2 hacc hr
        go_wp2
        go_ret2
        exact ⟨_, _, rfl, hres.out, hbr⟩
end Go.Proofs.YtlmbcclggaflaaaGreatDoor
namespace Go.Proofs.YtlmbcclggaflaaaGreatDoor
open Go Go.RowKit

theorem vcheck_any (s : ByteArray) (most : Int) (w : World) :
    Calls Tryz.prog 140 #[.string s, .int .i64 most] w fun e w' => e = .returned (.int .i64 (checkV s.size most)) ∧ w' = w := by
  rcases (show most < 0 ∨ 512 < most ∨ (0 ≤ most ∧ most ≤ 512 ∧ most < (s.size : Int)) ∨ (0 ≤ most ∧ most ≤ 512 ∧ (s.size : Int) ≤ most) by omega) with h | h | ⟨h, h', h2⟩ | ⟨h, h', h2⟩
  all_goals
    go_enter Tryz.func140, Tryz.ntmps140
    go_wp2
    go_ret
    exact ⟨ret_int (by unfold checkV; repeat (first | split | omega)), rfl⟩

set_option maxRecDepth 100000 in
set_option maxHeartbeats 1000000 in
theorem vtext_any (s : ByteArray) (w : World) :
    Calls Tryz.prog 121 #[.string s] w fun e w' => e = .returned (.tuple #[.string ⟨(textV s.data.toList).1.toArray⟩, .int .i64 (textV s.data.toList).2]) ∧ Below w.heap.size w w' := by
  have hcv := fun (wx : World) (s : ByteArray) => run_bytes_of_string (P := Tryz.prog) wx 9 23 5 s Tryz.underlying9 Tryz.underlying23 Tryz.underlying5
  by_cases h1 : 512 < s.size
  · have h2 := checkV_large (n := s.size) (m := 512) (by omega) (by omega) (by omega)
    have HT := Lib.hid (textV_large h1)
    have H2 := Lib.hid h2; clear h2
    go_enter Tryz.func121, Tryz.ntmps121
    go_wp2_with (go_at_call 140; refine (keeps (vcheck_any _ _ _)).mono ?_; rw [H2.out]; rintro e w' ⟨rfl, rfl⟩)
    go_ret2
    exact ⟨by rw [HT.out]; rfl, Below.refl _ _⟩
  · have H2 := Lib.hid (checkV_ok (n := s.size) (m := 512) (by omega) (by omega) (by omega))
    by_cases h3 : s.size = 0
    · have h4 := isEmpty_true h3
      have HT := Lib.hid (textV_none h3)
      clear h3
      go_enter Tryz.func121, Tryz.ntmps121
      go_wp2_with (go_at_call 140; refine (keeps (vcheck_any _ _ _)).mono ?_; rw [H2.out]; rintro e w' ⟨rfl, rfl⟩)
      go_ret2
      exact ⟨by rw [HT.out]; rfl, Below.refl _ _⟩
    · have h4 := isEmpty_false h3
      have HT := Lib.hid (textV_some h1 h3)
      clear h3
      have hsl := str_len s
      have hbs := BytesAt.of_string w s 5 (grownCap w s.size 0 5) (grownCap_ge w s.size 0 5)
      go_enter Tryz.func121, Tryz.ntmps121
      have HB := Lib.hid hbs; clear hbs
      have HS := Lib.hid hsl; clear hsl
      go_wp2_with (go_at_call 140; refine (keeps (vcheck_any _ _ _)).mono ?_; rw [H2.out]; rintro e w' ⟨rfl, rfl⟩)
      refine (hex_any _ s.data.toList _ (BytesAt.drew (HB.out _)) (by rw [HS.out]; omega)).mono ?_
      rintro e w2 ⟨rfl, hb2⟩
      go_wp2
      go_ret2
      exact ⟨by rw [HT.out]; rfl, (((Below.refl w.heap.size w).alloc (Nat.le_refl _) _).drew).trans (hb2.mono (by simp))⟩

set_option maxRecDepth 100000 in
set_option maxHeartbeats 1000000 in
theorem vparse_any (s : ByteArray) (w : World) (hl : s.size ≤ 35184372088832) :
    Calls Tryz.prog 122 #[.string s] w fun e w' => e = .returned (.tuple #[.string ⟨(parseV s.data.toList).1.toArray⟩, .int .i64 (parseV s.data.toList).2]) ∧ Below w.heap.size w w' := by
  by_cases h1 : s.data.toList = [45]
  · have h2 := is_true h1
    have HT := Lib.hid (parseV_dash h1)
    clear h1
    go_enter Tryz.func122, Tryz.ntmps122
    go_wp2_with fail
    go_ret2
    exact ⟨by rw [HT.out]; rfl, Below.refl _ _⟩
  · have h2 := is_false h1
    have H1 := Lib.hid h1; clear h1
    by_cases h3 : s.size = 0
    · have h4 := isEmpty_true h3
      have HT := Lib.hid (parseV_empty (l := s.data.toList) (by rw [str_len]; exact h3))
      clear h3
      go_enter Tryz.func122, Tryz.ntmps122
      go_wp2_with fail
      go_ret2
      exact ⟨by rw [HT.out]; rfl, Below.refl _ _⟩
    · have h4 := isEmpty_false h3
      have H3 : Hid (¬ s.data.toList.length = 0) := by show ¬ _; rw [str_len]; exact h3
      clear h3
      go_enter Tryz.func122, Tryz.ntmps122
      go_wp2_with fail
      refine (parseHex_any s _ hl).mono ?_
      rintro e w2 ⟨v1, v2, rfl, hp, hb⟩
      rcases hp with ⟨hn, rfl, rfl⟩ | ⟨t, hn, hbt, rfl⟩
      · have HT := Lib.hid (parseV_bad H1.out H3.out hn); clear hn
        go_wp2_with fail
        go_ret2
        exact ⟨by rw [HT.out]; rfl, hb⟩
      · have hcv := hbt.convert (P := Tryz.prog) 23 9 5 Tryz.underlying23 Tryz.underlying5 Tryz.underlying9
        obtain ⟨p, c, rfl, hc, _⟩ := hbt
        by_cases h5 : 512 < t.length
        · have HT := Lib.hid (parseV_large H1.out H3.out hn h5); clear hn
          go_wp2_with fail
          go_ret2
          exact ⟨by rw [HT.out]; rfl, hb⟩
        · have HT := Lib.hid (parseV_ok H1.out H3.out hn h5); clear hn
          go_wp2_with fail
          go_ret2
          exact ⟨by rw [HT.out]; rfl, hb⟩
end Go.Proofs.YtlmbcclggaflaaaGreatDoor
namespace Go.Proofs.YtlmbcclggaflaaaGreatDoor
open Go Go.RowKit

/-- Two strings one behind the other. -/
theorem run_add (a b : ByteArray) (h : a.size + b.size ≤ 1000000) : ∀ w, (binOp .add 9 (.string a) (.string b)).run Tryz.prog w = .ok (.string (a ++ b)) w := by
  intro w
  simp [go_sem]
  omega
/-- An operation as a value. -/
abbrev opA (k a b : Int) (x v : ByteArray) : Value := .agg #[.int .i64 k, .int .i64 a, .int .i64 b, .string x, .string v]
/-- An operation in memory. -/
def OpBox (w : World) (B : Nat) (k a b : Int) (x v : ByteArray) : Prop := (w.cell? ⟨B, 0, none⟩ = some (.int .i64 k) ∧ w.cell? ⟨B, 1, none⟩ = some (.int .i64 a) ∧ w.cell? ⟨B, 2, none⟩ = some (.int .i64 b) ∧ w.cell? ⟨B, 3, none⟩ = some (.string x) ∧ w.cell? ⟨B, 4, none⟩ = some (.string v)) ∧ ∀ j, w.frozen? ⟨B, j, none⟩ = false
theorem OpBox.new (w : World) (k a b : Int) (x v : ByteArray) (t : TypeId) : OpBox (w.alloc (.cells #[.int .i64 k, .int .i64 a, .int .i64 b, .string x, .string v] t)) w.heap.size k a b x v :=
  ⟨⟨new_cell _ _ 0 _ rfl, new_cell _ _ 1 _ rfl, new_cell _ _ 2 _ rfl, new_cell _ _ 3 _ rfl, new_cell _ _ 4 _ rfl⟩, fun j => new_free _ _ j⟩
theorem OpBox.lt {w : World} {B : Nat} {k a b : Int} {x v : ByteArray} (h : OpBox w B k a b x v) : B < w.heap.size := World.block_lt_of_cell? w _ h.1.1
theorem OpBox.below {w w' : World} {B : Nat} {k a b : Int} {x v : ByteArray} (h : OpBox w B k a b x v) (hb : Below w.heap.size w w') : OpBox w' B k a b x v :=
  ⟨⟨cell_kept h.1.1 hb, cell_kept h.1.2.1 hb, cell_kept h.1.2.2.1 hb, cell_kept h.1.2.2.2.1 hb, cell_kept h.1.2.2.2.2 hb⟩, fun j => free_kept (h.2 j) h.lt hb⟩
/-- Five cells of a block are set. -/
abbrev set5 (w : World) (B : Nat) (v0 v1 v2 v3 v4 : Value) : World := ((((w.setCell ⟨B, 0, none⟩ v0).setCell ⟨B, 1, none⟩ v1).setCell ⟨B, 2, none⟩ v2).setCell ⟨B, 3, none⟩ v3).setCell ⟨B, 4, none⟩ v4
theorem set5_block (w : World) {B C : Nat} (h : C ≠ B) (v0 v1 v2 v3 v4 : Value) : (set5 w B v0 v1 v2 v3 v4).heap[C]? = w.heap[C]? := by
  rw [Below.heap_setCell _ _ _ _ h, Below.heap_setCell _ _ _ _ h, Below.heap_setCell _ _ _ _ h, Below.heap_setCell _ _ _ _ h, Below.heap_setCell _ _ _ _ h]
theorem set5_off {w : World} {B C o : Nat} {v : Value} (hc : w.cell? ⟨C, o, none⟩ = some v) (h : C ≠ B) (v0 v1 v2 v3 v4 : Value) : (set5 w B v0 v1 v2 v3 v4).cell? ⟨C, o, none⟩ = some v :=
  (World.cell?_of_block (a := ⟨C, o, none⟩) (set5_block w h v0 v1 v2 v3 v4)).trans hc
theorem set5_below {b B : Nat} {w0 w : World} (h : Below b w0 w) (hB : b ≤ B) (v0 v1 v2 v3 v4 : Value) : Below b w0 (set5 w B v0 v1 v2 v3 v4) :=
  below_set (below_set (below_set (below_set (below_set h _ hB 0 _) _ hB 1 _) _ hB 2 _) _ hB 3 _) _ hB 4 _
theorem set5_at {w : World} {B : Nat} {k a b : Int} {x v : ByteArray} (h : OpBox w B k a b x v) (k' a' b' : Int) (x' v' : ByteArray) : OpBox (set5 w B (.int .i64 k') (.int .i64 a') (.int .i64 b') (.string x') (.string v')) B k' a' b' x' v' := by
  obtain ⟨⟨h0, h1, h2, h3, h4⟩, hf⟩ := h
  have hne : ∀ i j : Nat, i ≠ j → (⟨B, i, none⟩ : Addr) ≠ ⟨B, j, none⟩ := fun i j hij he => by injection he with e1 e2; exact hij e2
  refine ⟨⟨?_, ?_, ?_, ?_, ?_⟩, fun j => by rw [World.frozen?_setCell, World.frozen?_setCell, World.frozen?_setCell, World.frozen?_setCell, World.frozen?_setCell]; exact hf j⟩
  · rw [World.cell?_setCell_other (h := hne _ _ (by decide)), World.cell?_setCell_other (h := hne _ _ (by decide)), World.cell?_setCell_other (h := hne _ _ (by decide)), World.cell?_setCell_other (h := hne _ _ (by decide))]
    exact World.cell?_setCell_same _ ⟨B, 0, none⟩ _ h0
  · rw [World.cell?_setCell_other (h := hne _ _ (by decide)), World.cell?_setCell_other (h := hne _ _ (by decide)), World.cell?_setCell_other (h := hne _ _ (by decide))]
    exact World.cell?_setCell_same _ ⟨B, 1, none⟩ _ (by rw [World.cell?_setCell_other (h := hne _ _ (by decide))]; exact h1)
  · rw [World.cell?_setCell_other (h := hne _ _ (by decide)), World.cell?_setCell_other (h := hne _ _ (by decide))]
    exact World.cell?_setCell_same _ ⟨B, 2, none⟩ _ (by rw [World.cell?_setCell_other (h := hne _ _ (by decide)), World.cell?_setCell_other (h := hne _ _ (by decide))]; exact h2)
  · rw [World.cell?_setCell_other (h := hne _ _ (by decide))]
    exact World.cell?_setCell_same _ ⟨B, 3, none⟩ _ (by rw [World.cell?_setCell_other (h := hne _ _ (by decide)), World.cell?_setCell_other (h := hne _ _ (by decide)), World.cell?_setCell_other (h := hne _ _ (by decide))]; exact h3)
  · exact World.cell?_setCell_same _ ⟨B, 4, none⟩ _ (by rw [World.cell?_setCell_other (h := hne _ _ (by decide)), World.cell?_setCell_other (h := hne _ _ (by decide)), World.cell?_setCell_other (h := hne _ _ (by decide)), World.cell?_setCell_other (h := hne _ _ (by decide))]; exact h4)
theorem OpBox.new2 (w : World) (k a b : Int) (x v : ByteArray) (k' a' b' : Int) (x' v' : ByteArray) (t t' : TypeId) : OpBox ((w.alloc (.cells #[.int .i64 k, .int .i64 a, .int .i64 b, .string x, .string v] t)).alloc (.cells #[.int .i64 k', .int .i64 a', .int .i64 b', .string x', .string v'] t')) (w.heap.size + 1) k' a' b' x' v' := by
  have h := OpBox.new (w.alloc (.cells #[.int .i64 k, .int .i64 a, .int .i64 b, .string x, .string v] t)) k' a' b' x' v' t'
  rw [World.size_alloc] at h
  exact h
theorem below2 (w : World) (o o' : Obj) : Below w.heap.size w ((w.alloc o).alloc o') := ((Below.refl _ _).alloc (Nat.le_refl _) _).alloc (by simp) _
theorem OpBox.drew {w : World} {B : Nat} {k a b : Int} {x v : ByteArray} (h : OpBox w B k a b x v) : OpBox w.drew B k a b x v := h
theorem OpBox.set1 {w : World} {B : Nat} {k a b : Int} {x v : ByteArray} (h : OpBox w B k a b x v) (c : Int) : OpBox (w.setCell ⟨B, 1, none⟩ (.int .i64 c)) B k c b x v := by
  obtain ⟨⟨h0, h1, h2, h3, h4⟩, hf⟩ := h
  have hne : ∀ i : Nat, i ≠ 1 → (⟨B, i, none⟩ : Addr) ≠ ⟨B, 1, none⟩ := fun i hij he => by injection he with e1 e2; exact hij e2
  exact ⟨⟨by rw [World.cell?_setCell_other (h := Ne.symm (hne 0 (by decide)))]; exact h0, World.cell?_setCell_same w ⟨B, 1, none⟩ _ h1, by rw [World.cell?_setCell_other (h := Ne.symm (hne 2 (by decide)))]; exact h2, by rw [World.cell?_setCell_other (h := Ne.symm (hne 3 (by decide)))]; exact h3, by rw [World.cell?_setCell_other (h := Ne.symm (hne 4 (by decide)))]; exact h4⟩, fun j => by rw [World.frozen?_setCell]; exact hf j⟩
theorem OpBox.set2 {w : World} {B : Nat} {k a b : Int} {x v : ByteArray} (h : OpBox w B k a b x v) (c : Int) : OpBox (w.setCell ⟨B, 2, none⟩ (.int .i64 c)) B k a c x v := by
  obtain ⟨⟨h0, h1, h2, h3, h4⟩, hf⟩ := h
  have hne : ∀ i : Nat, i ≠ 2 → (⟨B, i, none⟩ : Addr) ≠ ⟨B, 2, none⟩ := fun i hij he => by injection he with e1 e2; exact hij e2
  exact ⟨⟨by rw [World.cell?_setCell_other (h := Ne.symm (hne 0 (by decide)))]; exact h0, by rw [World.cell?_setCell_other (h := Ne.symm (hne 1 (by decide)))]; exact h1, World.cell?_setCell_same w ⟨B, 2, none⟩ _ h2, by rw [World.cell?_setCell_other (h := Ne.symm (hne 3 (by decide)))]; exact h3, by rw [World.cell?_setCell_other (h := Ne.symm (hne 4 (by decide)))]; exact h4⟩, fun j => by rw [World.frozen?_setCell]; exact hf j⟩
theorem OpBox.set3 {w : World} {B : Nat} {k a b : Int} {x v : ByteArray} (h : OpBox w B k a b x v) (c : ByteArray) : OpBox (w.setCell ⟨B, 3, none⟩ (.string c)) B k a b c v := by
  obtain ⟨⟨h0, h1, h2, h3, h4⟩, hf⟩ := h
  have hne : ∀ i : Nat, i ≠ 3 → (⟨B, i, none⟩ : Addr) ≠ ⟨B, 3, none⟩ := fun i hij he => by injection he with e1 e2; exact hij e2
  exact ⟨⟨by rw [World.cell?_setCell_other (h := Ne.symm (hne 0 (by decide)))]; exact h0, by rw [World.cell?_setCell_other (h := Ne.symm (hne 1 (by decide)))]; exact h1, by rw [World.cell?_setCell_other (h := Ne.symm (hne 2 (by decide)))]; exact h2, World.cell?_setCell_same w ⟨B, 3, none⟩ _ h3, by rw [World.cell?_setCell_other (h := Ne.symm (hne 4 (by decide)))]; exact h4⟩, fun j => by rw [World.frozen?_setCell]; exact hf j⟩
theorem OpBox.set4 {w : World} {B : Nat} {k a b : Int} {x v : ByteArray} (h : OpBox w B k a b x v) (c : ByteArray) : OpBox (w.setCell ⟨B, 4, none⟩ (.string c)) B k a b x c := by
  obtain ⟨⟨h0, h1, h2, h3, h4⟩, hf⟩ := h
  have hne : ∀ i : Nat, i ≠ 4 → (⟨B, i, none⟩ : Addr) ≠ ⟨B, 4, none⟩ := fun i hij he => by injection he with e1 e2; exact hij e2
  exact ⟨⟨by rw [World.cell?_setCell_other (h := Ne.symm (hne 0 (by decide)))]; exact h0, by rw [World.cell?_setCell_other (h := Ne.symm (hne 1 (by decide)))]; exact h1, by rw [World.cell?_setCell_other (h := Ne.symm (hne 2 (by decide)))]; exact h2, by rw [World.cell?_setCell_other (h := Ne.symm (hne 3 (by decide)))]; exact h3, World.cell?_setCell_same w ⟨B, 4, none⟩ _ h4⟩, fun j => by rw [World.frozen?_setCell]; exact hf j⟩
theorem OpBox.block {w w' : World} {B : Nat} {k a b : Int} {x v : ByteArray} (h : OpBox w B k a b x v) (hb : w'.heap[B]? = w.heap[B]?) : OpBox w' B k a b x v :=
  ⟨⟨(World.cell?_of_block (a := ⟨B, 0, none⟩) hb).trans h.1.1, (World.cell?_of_block (a := ⟨B, 1, none⟩) hb).trans h.1.2.1, (World.cell?_of_block (a := ⟨B, 2, none⟩) hb).trans h.1.2.2.1, (World.cell?_of_block (a := ⟨B, 3, none⟩) hb).trans h.1.2.2.2.1, (World.cell?_of_block (a := ⟨B, 4, none⟩) hb).trans h.1.2.2.2.2⟩, fun j => (World.frozen?_of_block (a := ⟨B, j, none⟩) hb).trans (h.2 j)⟩
theorem results_w {fn : Func} {s t u : Tmp} (h : fn.results = #[.tmp s, .cell t 28, .tmp u]) (tmps : Array Value) (w : World) (B : Nat) (k a b : Int) (x v : ByteArray) (p q : Value) (hp : OpBox w B k a b x v) (hs : tmps.getD s undef = p) (ht : tmps.getD t undef = .pointer (some ⟨B, 0, none⟩)) (hu : tmps.getD u undef = q) : (results fn tmps).run Tryz.prog w = .ok (.tuple #[p, opA k a b x v, q]) w := by
  obtain ⟨⟨h0, h1, h2, h3, h4⟩, _⟩ := hp
  have hs' : tmps[s]?.getD undef = p := by simpa using hs
  have ht' : tmps[t]?.getD undef = .pointer (some ⟨B, 0, none⟩) := by simpa using ht
  have hu' : tmps[u]?.getD undef = q := by simpa using hu
  simp [results, h, hs', ht', hu', asAddr]
  go_simp
  done
set_option maxHeartbeats 1000000 in
theorem writeKey_any (k a b : Int) (x v : ByteArray) (hx : x.size ≤ 100000) (w : World) :
    Calls Tryz.prog 96 #[opA k a b x v] w fun e w' => e = .returned (.tuple #[.string (⟨#[32]⟩ ++ x), opA k 0 0 x ⟨#[]⟩, .bool (keyV x.data.toList == 0)]) ∧ Below w.heap.size w w' := by
  have q1 : ¬ 9223372036854775807 < 1 + x.size := by omega
  have HX := Lib.hid hx
  clear hx
  obtain ⟨kv, hkv⟩ : ∃ kv, keyV x.data.toList = kv := ⟨_, rfl⟩
  rw [hkv]
  have HKV := Lib.hid hkv
  clear hkv
  go_enter Tryz.func96, Tryz.ntmps96
  go_wp2_with fail
  have c1 : Below w.heap.size w ((w.alloc (.cells #[.int .i64 k, .int .i64 a, .int .i64 b, .string x, .string v] 28)).alloc (.cells #[.int .i64 0, .int .i64 0, .int .i64 0, .string ⟨#[]⟩, .string ⟨#[]⟩] 28)) := ((Below.refl _ _).alloc (Nat.le_refl _) _).alloc (by simp) _
  have H1 := (OpBox.new w k a b x v 28).below ((Below.refl _ (w.alloc (.cells #[.int .i64 k, .int .i64 a, .int .i64 b, .string x, .string v] 28))).alloc (Nat.le_refl _) (.cells #[.int .i64 0, .int .i64 0, .int .i64 0, .string ⟨#[]⟩, .string ⟨#[]⟩] 28))
  have H2 := OpBox.new (w.alloc (.cells #[.int .i64 k, .int .i64 a, .int .i64 b, .string x, .string v] 28)) 0 0 0 ⟨#[]⟩ ⟨#[]⟩ 28
  rw [World.size_alloc] at H2
  generalize (w.alloc (.cells #[.int .i64 k, .int .i64 a, .int .i64 b, .string x, .string v] 28)).alloc (.cells #[.int .i64 0, .int .i64 0, .int .i64 0, .string ⟨#[]⟩, .string ⟨#[]⟩] 28) = w1 at *
  have HR := Lib.hid H2
  obtain ⟨⟨k0, k1, k2, k3, k4⟩, kf⟩ := H1
  obtain ⟨⟨r0, r1, r2, r3, r4⟩, rf⟩ := H2
  have rf0 := rf 0
  have rf1 := rf 1
  have rf2 := rf 2
  have rf3 := rf 3
  have rf4 := rf 4
  clear kf rf k1 k2 k4
  have k0d : w1.drew.cell? ⟨w.heap.size, 0, none⟩ = some (.int .i64 k) := k0
  have k3d : w1.drew.cell? ⟨w.heap.size, 3, none⟩ = some (.string x) := k3
  have c1d : Below w.heap.size w w1.drew := c1.drew
  clear k0 k3 r0 r1 r2 r3 r4 rf0 rf1 rf2 rf3 rf4
  have hne : w.heap.size ≠ w.heap.size + 1 := by omega
  have hle : w.heap.size ≤ w.heap.size + 1 := by omega
  go_region_held3 (fun w' => w'.cell? ⟨w.heap.size, 0, none⟩ = some (.int .i64 k) ∧ w'.cell? ⟨w.heap.size, 3, none⟩ = some (.string x) ∧ Below w.heap.size w w')
    (first
      | with_reducible exact ⟨k0d, k3d, c1d⟩
      | with_reducible exact ⟨g0, g3, gb⟩
      | with_reducible exact ⟨set5_off g0 hne _ _ _ _ _, set5_off g3 hne _ _ _ _ _, set5_below gb hle _ _ _ _ _⟩
      | with_reducible exact ⟨by assumption, by assumption, by assumption⟩)
    (first | (go_at_call 123; refine (kcheck_any x (by have := HX.out; omega) _).mono ?_; rw [HKV.out]; rintro e w2 ⟨rfl, b1⟩; have HR2 := Lib.hid (HR.out.below ((Below.refl _ w1).drew.trans b1)); obtain ⟨⟨z0, z1, z2, z3, z4⟩, zf⟩ := HR.out.below ((Below.refl _ w1).drew.trans b1); have zf0 := zf 0; have zf1 := zf 1; have zf2 := zf 2; have zf3 := zf 3; have zf4 := zf 4; clear zf; have g0 := cell_kept k0d b1; have g3 := cell_kept k3d b1; have gb := c1d.trans (b1.mono c1d.size)))
  have HRs := Lib.hid (set5_at HR2.out k 0 0 x ⟨#[]⟩)
  have gc := set5_below gb hle (.int .i64 k) (.int .i64 0) (.int .i64 0) (.string x) (.string ⟨#[]⟩)
  clear z0 z1 z2 z3 z4 zf0 zf1 zf2 zf3 zf4 g0 g3 k0d k3d
  go_wp2_with fail
  exact bodyPost_ret (results_w rfl _ _ (w.heap.size + 1) k 0 0 x ⟨#[]⟩ _ _ HRs.out rfl rfl rfl) rfl ⟨rfl, gc⟩

theorem textV_short (v : ByteArray) : (⟨(textV v.data.toList).1.toArray⟩ : ByteArray).size ≤ 2000 := by
  show (pack (textV v.data.toList).1).size ≤ 2000
  rw [pack_size]
  unfold textV
  split
  · simp
  · split
    · simp
    · rename_i h _
      rw [hexL_length]
      omega
set_option maxRecDepth 100000 in
set_option maxHeartbeats 1000000 in
theorem writePut_at (k a b : Int) (x v : ByteArray) (hx : x.size ≤ 100000) (y : Bool) (hy : (keyV x.data.toList == 0) = y) (w : World) :
    Calls Tryz.prog 94 #[opA k a b x v] w fun e w' => e = .returned (.tuple #[.string (((⟨#[32]⟩ ++ x) ++ ⟨#[32]⟩) ++ ⟨(textV v.data.toList).1.toArray⟩), opA k 0 0 x v, .bool (y && ((textV v.data.toList).2 == 0))]) ∧ Below w.heap.size w w' := by
  obtain ⟨T, hT⟩ : ∃ T, (⟨(textV v.data.toList).1.toArray⟩ : ByteArray) = T := ⟨_, rfl⟩
  have hTs : T.size ≤ 2000 := by rw [← hT]; exact textV_short v
  obtain ⟨te, hte⟩ : ∃ te, (textV v.data.toList).2 = te := ⟨_, rfl⟩
  obtain ⟨P, hP⟩ : ∃ P, (⟨#[32]⟩ : ByteArray) ++ x = P := ⟨_, rfl⟩
  have hPs : P.size = 1 + x.size := by rw [← hP, ByteArray.size_append]; rfl
  rw [hT, hte, hP]
  have q1 : ¬ 9223372036854775807 < P.size + 1 := by omega
  have q2 : ¬ 9223372036854775807 < P.size + 1 + T.size := by omega
  have HT := Lib.hid hT
  have HTE := Lib.hid hte
  have HP := Lib.hid hP
  have HY := Lib.hid hy
  have HX := Lib.hid hx
  have hle : w.heap.size ≤ w.heap.size + 1 := by omega
  have HLE := Lib.hid hle
  clear hT hte hP hy hTs hPs hx hle
  go_enter Tryz.func94, Tryz.ntmps94
  go_wp2_with fail
  have c1 : Below w.heap.size w ((w.alloc (.cells #[.int .i64 k, .int .i64 a, .int .i64 b, .string x, .string v] 28)).alloc (.cells #[.int .i64 0, .int .i64 0, .int .i64 0, .string ⟨#[]⟩, .string ⟨#[]⟩] 28)) := ((Below.refl _ _).alloc (Nat.le_refl _) _).alloc (by simp) _
  have H1 := Lib.hid ((OpBox.new w k a b x v 28).below ((Below.refl _ (w.alloc (.cells #[.int .i64 k, .int .i64 a, .int .i64 b, .string x, .string v] 28))).alloc (Nat.le_refl _) (.cells #[.int .i64 0, .int .i64 0, .int .i64 0, .string ⟨#[]⟩, .string ⟨#[]⟩] 28)))
  have H2 := OpBox.new (w.alloc (.cells #[.int .i64 k, .int .i64 a, .int .i64 b, .string x, .string v] 28)) 0 0 0 ⟨#[]⟩ ⟨#[]⟩ 28
  rw [World.size_alloc] at H2
  have HR := Lib.hid H2
  clear H2
  generalize (w.alloc (.cells #[.int .i64 k, .int .i64 a, .int .i64 b, .string x, .string v] 28)).alloc (.cells #[.int .i64 0, .int .i64 0, .int .i64 0, .string ⟨#[]⟩, .string ⟨#[]⟩] 28) = w1 at *
  have HC := Lib.hid c1
  clear c1
  refine (writeKey_any k a b x v HX.out _).mono ?_
  rw [HY.out, HP.out]
  rintro e w2 ⟨rfl, b1⟩
  have H1a := Lib.hid (H1.out.below b1)
  have HRa := Lib.hid (HR.out.below b1)
  have HCa := Lib.hid (HC.out.trans (b1.mono HC.out.size))
  clear H1 HR HC b1
  have a6 := (Below.refl w2.heap.size w2).alloc (Nat.le_refl _) (.cells #[.int .i64 k, .int .i64 0, .int .i64 0, .string x, .string ⟨#[]⟩] 28)
  have H6 := Lib.hid (OpBox.new w2 k 0 0 x ⟨#[]⟩ 28)
  obtain ⟨⟨p0, p1, p2, p3, p4⟩, pf⟩ := H1a.out
  have hz : w.heap.size < w2.heap.size := H1a.out.lt
  have H1b := Lib.hid (H1a.out.below a6)
  have HRb := Lib.hid (HRa.out.below a6)
  have HCb := Lib.hid (HCa.out.trans (a6.mono HCa.out.size))
  have hB6 : Hid (w.heap.size + 1 < w2.heap.size) := HRa.out.lt
  clear pf a6 p0 p1 p2 p3 H1a HRa HCa
  go_wp2_with fail
  generalize hw3 : (w2.alloc (.cells #[.int .i64 k, .int .i64 0, .int .i64 0, .string x, .string ⟨#[]⟩] 28)) = w3 at *
  clear hw3 p4 hz
  obtain ⟨B6, hb6⟩ : ∃ B6, w2.heap.size = B6 := ⟨_, rfl⟩
  rw [hb6] at H6 hB6
  rw [hb6]
  clear hb6
  refine (vtext_any v _).mono ?_
  rw [HT.out, HTE.out]
  rintro e w4 ⟨rfl, b1⟩
  have H6c := Lib.hid (H6.out.below b1)
  obtain ⟨⟨p0, p1, p2, p3, p4⟩, pf⟩ := H1b.out.below b1
  obtain ⟨⟨s0, s1, s2, s3, s4⟩, sf⟩ := H6.out.below b1
  have sf4 := sf 4
  have HRc := Lib.hid (HRb.out.below b1)
  have HCc := Lib.hid (HCb.out.trans (b1.mono HCb.out.size))
  clear pf sf b1 HRb HCb H6 H1b p0 p1 p2 p3
  go_wp2_with fail
  have H6d := Lib.hid (H6c.out.set4 v)
  have HRd := Lib.hid (HRc.out.block (Below.heap_setCell w4 ⟨B6, 4, none⟩ (.string v) (w.heap.size + 1) (by have := hB6.out; show _ ≠ B6; omega)))
  have HCd := Lib.hid (below_set HCc.out B6 (by have := hB6.out; omega) 4 (.string v))
  clear s0 s1 s2 s3 s4 sf4 p4 HRc HCc H6c
  go_outline
  generalize (w4.setCell ⟨B6, 4, none⟩ (.string v)) = w5 at *
  obtain ⟨⟨s0, s1, s2, s3, s4⟩, sf⟩ := H6d.out
  obtain ⟨⟨z0, z1, z2, z3, z4⟩, zf⟩ := HRd.out
  have zf0 := zf 0
  have zf1 := zf 1
  have zf2 := zf 2
  have zf3 := zf 3
  have zf4 := zf 4
  have HRs := Lib.hid (set5_at HRd.out k 0 0 x v).drew
  have gc := Lib.hid (set5_below HCd.out HLE.out (.int .i64 k) (.int .i64 0) (.int .i64 0) (.string x) (.string v)).drew
  clear sf zf HCd HRd H6d HLE hB6
  cases y
  all_goals
    go_region
    go_wp2_with fail
    exact bodyPost_ret (results_w rfl _ _ (w.heap.size + 1) k 0 0 x v _ _ HRs.out rfl rfl rfl) rfl ⟨rfl, gc.out⟩
end Go.Proofs.YtlmbcclggaflaaaGreatDoor
namespace Go.Proofs.YtlmbcclggaflaaaGreatDoor
open Go Go.RowKit

theorem PlanAt.set1 {w : World} {B : Nat} {A : Int} {d : Bool} {v : Value} (h : PlanAt w B A d v) (d' : Bool) : PlanAt (w.setCell ⟨B, 1, none⟩ (.bool d')) B A d' v := by
  obtain ⟨⟨h0, h1, h2⟩, h3⟩ := h
  have n1 : (⟨B, 0, none⟩ : Addr) ≠ ⟨B, 1, none⟩ := by intro he; injection he with e1 e2; omega
  have n2 : (⟨B, 2, none⟩ : Addr) ≠ ⟨B, 1, none⟩ := by intro he; injection he with e1 e2; omega
  exact ⟨⟨by rw [World.cell?_setCell_other (h := Ne.symm n1)]; exact h0, World.cell?_setCell_same w ⟨B, 1, none⟩ _ h1, by rw [World.cell?_setCell_other (h := Ne.symm n2)]; exact h2⟩, fun j => by rw [World.frozen?_setCell]; exact h3 j⟩
theorem until_sp (s : ByteArray) (hs : s.size ≤ 1000000) (w : World) (A : Int) (R : ByteArray) (hA : refA s.data.toList = A) (hR : pack (refR s.data.toList) = R) :
    Calls Tryz.prog 103 #[.string s, .int .u8 32] w fun e w' => e = .returned (.tuple #[.int .i64 A, .string R]) ∧ Below w.heap.size w w' := by
  rw [← hA, ← hR]
  exact until_any s hs 32 w
theorem until_co (s : ByteArray) (hs : s.size ≤ 1000000) (w : World) :
    Calls Tryz.prog 103 #[.string s, .int .u8 44] w fun e w' => e = .returned (.tuple #[.int .i64 ((utL 44 0 0 s.data.toList).1 : Int), .string (pack (utL 44 0 0 s.data.toList).2)]) ∧ Below w.heap.size w w' :=
  until_any s hs 44 w
def szOf : Value → Nat
  | .string s => s.size
  | _ => 0
theorem utL_shorter (c : UInt8) (l : List UInt8) (h : l ≠ []) : (utL c 0 0 l).2.length < l.length := by
  cases l with
  | nil => exact absurd rfl h
  | cons b r =>
    unfold utL
    split
    · simp
    · exact Nat.lt_of_le_of_lt (utL_short c r _ _) (by simp)
theorem own_off {w : World} {base C : Nat} {v : Value} {L : List Int} (h : IntsNew base w v L) (hc : C < base) : some C ≠ v.ownBlock := fun e => by
  have := (World.ownsRow.lt h C e.symm).1
  omega
theorem PlanAt.grown {w w' : World} {B : Nat} {A : Int} {d : Bool} {v : Value} {row : Option Nat} (h : PlanAt w B A d v) (hg : w.grownBy w' row) (hn : some B ≠ row) : PlanAt w' B A d v :=
  h.block (hg.block B h.lt hn)
set_option maxRecDepth 100000 in
set_option maxHeartbeats 8000000 in
theorem refParse_any (s : ByteArray) (hs : s.size ≤ 1000000) (w : World) :
    Calls Tryz.prog 73 #[.string s] w fun e w' => parsePost w.heap.size s e w' ∧ Below w.heap.size w w' := by
  have c1 : Below w.heap.size w (w.alloc (.cells #[.int .i64 0, .bool false, .slice none 0 0] 38)) := (Below.refl _ _).alloc (Nat.le_refl _) _
  have c2 : Below w.heap.size w ((w.alloc (.cells #[.int .i64 0, .bool false, .slice none 0 0] 38)).alloc (.cells #[.int .i64 0, .bool false, .slice none 0 0] 38)) := c1.alloc c1.size _
  have a2 : Below (w.alloc (.cells #[.int .i64 0, .bool false, .slice none 0 0] 38)).heap.size (w.alloc (.cells #[.int .i64 0, .bool false, .slice none 0 0] 38)) ((w.alloc (.cells #[.int .i64 0, .bool false, .slice none 0 0] 38)).alloc (.cells #[.int .i64 0, .bool false, .slice none 0 0] 38)) := (Below.refl _ _).alloc (Nat.le_refl _) _
  have hs1 : (w.alloc (.cells #[.int .i64 0, .bool false, .slice none 0 0] 38)).heap.size = w.heap.size + 1 := by simp
  have hs2 : ((w.alloc (.cells #[.int .i64 0, .bool false, .slice none 0 0] 38)).alloc (.cells #[.int .i64 0, .bool false, .slice none 0 0] 38)).heap.size = w.heap.size + 2 := by simp
  have HR0 := Lib.hid ((PlanAt.new w 0 false (.slice none 0 0) 38).below a2)
  have hq := PlanAt.new (w.alloc (.cells #[.int .i64 0, .bool false, .slice none 0 0] 38)) 0 false (.slice none 0 0) 38
  rw [hs1] at hq
  have HP0 := Lib.hid hq
  obtain ⟨A, hA⟩ : ∃ A, refA s.data.toList = A := ⟨_, rfl⟩
  obtain ⟨R, hR⟩ : ∃ R, pack (refR s.data.toList) = R := ⟨_, rfl⟩
  have HA := Lib.hid hA
  have HRR := Lib.hid hR
  have HS := Lib.hid hs
  have hRs : R.size ≤ 1000000 := by
    rw [← hR, pack_size]
    have := utL_short 32 s.data.toList 0 0
    rw [str_len] at this
    exact Nat.le_trans this hs
  have HRS := Lib.hid hRs
  obtain ⟨i0, hi0, hz0, hz1, hz2⟩ := info_parts infoInt
  clear hq a2 c1 hA hs hR hRs
  go_enter Tryz.func73, Tryz.ntmps73
  go_wp2_with fail
  refine (until_sp s HS.out _ A R HA.out HRR.out).mono ?_
  rw [hs2]
  generalize ((w.alloc (.cells #[.int .i64 0, .bool false, .slice none 0 0] 38)).alloc (.cells #[.int .i64 0, .bool false, .slice none 0 0] 38)) = w0 at *
  rintro e w1 ⟨rfl, b1⟩
  rw [← hs2] at b1
  have hp1 := HP0.out.below b1
  have HP1 := Lib.hid hp1
  obtain ⟨⟨p0, p1, p2⟩, pf⟩ := hp1
  have pf0 := pf 0
  have hp2 := HP1.out.set0 A
  have HP2 := Lib.hid hp2
  obtain ⟨⟨q0, q1, q2⟩, qf⟩ := hp2
  have qf1 := qf 1
  have hR : Hid (PlanAt (w1.setCell ⟨w.heap.size + 1, 0, none⟩ (.int .i64 A)) w.heap.size 0 false (.slice none 0 0)) := (HR0.out.below b1).other (by omega) _
  have c3 := below_set (c2.trans (b1.mono c2.size)) (w.heap.size + 1) (by omega) 0 (.int .i64 A)
  have hsw : w.heap.size + 2 ≤ w1.heap.size := by rw [← hs2]; exact b1.size
  clear pf qf b1 c2 hs1 hs2 HR0 HP0 HP1
  by_cases hlen : R.size < 2
  · have d1 : decide ((R.size : Int) < 2) = true := by rw [decide_eq_true_iff]; omega
    have HB : Hid (pA s = 0 ∧ pD s = false ∧ pL s = [] ∧ pE s = 8) := p_bad fun h => by
      have h2 := (ref_good h).1
      rw [← HRR.out, pack_size] at hlen
      omega
    have rr := hR.out
    have HR := Lib.hid rr
    obtain ⟨⟨z0, z1, z2⟩, zf⟩ := rr
    have zf0 := zf 0
    have zf1 := zf 1
    have zf2 := zf 2
    clear zf
    clear hlen
    go_wp2_with fail
    refine bodyPost_ret (results_plan_slot rfl _ _ w.heap.size 0 false (.slice none 0 0) (.int .i64 8) (HR.out.set 0 false (.slice none 0 0)) rfl rfl) rfl ⟨⟨.slice none 0 0, by rw [HB.out.1, HB.out.2.1, HB.out.2.2.2], by rw [HB.out.2.2.1]; exact IntsNew.nil _ _⟩, ?_⟩
    exact below_set (below_set (below_set c3 _ (by omega) 0 _) _ (by omega) 1 _) _ (by omega) 2 _
  · have d1 : decide ((R.size : Int) < 2) = false := by rw [decide_eq_false_iff_not]; omega
    obtain ⟨x, hx⟩ : ∃ x, R.data.toList.getD 0 0 = x := ⟨_, rfl⟩
    have hix := run_str_at (P := Tryz.prog) R 9 Tryz.underlying9 .i64 0 0 rfl (by omega) x hx.symm
    obtain ⟨d, hd⟩ : ∃ d, ((x.toNat : Int) == 121) = d := ⟨_, rfl⟩
    have HD : Hid (refD s.data.toList = d) := by
      show _ = _
      unfold refD
      have e : (refR s.data.toList).getD 0 0 = x := by rw [← hx, ← HRR.out, pack_data]
      rw [e, ← hd]
      by_cases h : x = 121
      · rw [h]; rfl
      · rw [decide_eq_false h]
        symm
        rw [beq_eq_false_iff_ne]
        intro e2
        exact h (UInt8.toNat_inj.mp (by have e3 : (121 : UInt8).toNat = 121 := rfl
                                        omega))
    obtain ⟨R2, hR2⟩ : ∃ R2, (refR s.data.toList).drop 2 = R2 := ⟨_, rfl⟩
    have isl : ∀ wx, (Instr.slice 9 (.string R) (some (.int .i64 2)) none none).run Tryz.prog wx = .ok (.string (pack R2)) wx := fun wx => by
      rw [run_slice_string_l wx 9 R Tryz.underlying9 .i64 2 (by omega) (by omega), show ((2 : Int)).toNat = 2 by omega, ext_from, ← hR2, ← HRR.out, pack_data]
    have HL2 : Hid (R2.length ≤ 1000000) := by
      show _ ≤ _
      rw [← hR2, List.length_drop]
      have := HRS.out
      rw [← HRR.out, pack_size] at this
      omega
    have HK : Hid (refL s.data.toList = kpL 35 R2) := by show _ = _; unfold refL; rw [hR2]
    have HP3 := Lib.hid (HP2.out.set1 d)
    have hR3 : Hid (PlanAt ((w1.setCell ⟨w.heap.size + 1, 0, none⟩ (.int .i64 A)).setCell ⟨w.heap.size + 1, 1, none⟩ (.bool d)) w.heap.size 0 false (.slice none 0 0)) := hR.out.other (by omega) _
    have c4 := below_set c3 (w.heap.size + 1) (by omega) 1 (.bool d)
    have hs4 : ((w1.setCell ⟨w.heap.size + 1, 0, none⟩ (.int .i64 A)).setCell ⟨w.heap.size + 1, 1, none⟩ (.bool d)).heap.size = w1.heap.size := by rw [World.size_setCell, World.size_setCell]
    have HWL : Hid (∃ wL, ((w1.setCell ⟨w.heap.size + 1, 0, none⟩ (.int .i64 A)).setCell ⟨w.heap.size + 1, 1, none⟩ (.bool d)) = wL) := ⟨_, rfl⟩
    clear hlen hx hR2 hR c3
    go_wp2_with fail
    generalize ((w1.setCell ⟨w.heap.size + 1, 0, none⟩ (.int .i64 A)).setCell ⟨w.heap.size + 1, 1, none⟩ (.bool d)) = wL at *
    clear HP2 HWL p0 p1 p2 q0 q1 q2 pf0 qf1 isl hix d1 hd
    rw [← hs4] at hsw
    clear hs4
    go_loopw [6] (fun vr wr => ∃ (r : List UInt8) (v : Value) (acc : List Int), vr = .string (pack r) ∧ Hid (r.length ≤ 1000000) ∧ acc.length ≤ 35 ∧ Hid (kpL 35 R2 = acc ++ kpL (35 - acc.length) r) ∧ Hid (PlanAt wr (w.heap.size + 1) A d v) ∧ Hid (IntsNew (w.heap.size + 2) wr v acc) ∧ Hid (PlanAt wr w.heap.size 0 false (.slice none 0 0)) ∧ Below w.heap.size w wr ∧ w.heap.size + 2 ≤ wr.heap.size) (fun vr _ => szOf vr)
    case atStart => exact ⟨R2, .slice none 0 0, [], rfl, HL2, by simp, (by show _ = _; rfl), HP3, IntsNew.nil _ _, hR3, c4, hsw⟩
    case round =>
      clear HP3 hR3 c4 HL2 hsw
      obtain ⟨r, v, acc, rfl, hrl, hal, hk, hP, hN, hR, c4, hsw⟩ := hrel
      obtain ⟨p', c', rfl⟩ := ownsRow_slice hN.out
      have hp := hP.out
      obtain ⟨⟨p0, p1, p2⟩, pf⟩ := hp
      have pf2 := pf 2
      have hrs : (pack r).size ≤ 1000000 := by rw [pack_size]; exact hrl.out
      by_cases hr0 : r = []
      · have e1 : (pack r).toList.isEmpty = true := isEmpty_true (by rw [hr0]; rfl)
        have HF : Hid (refL s.data.toList = acc) := by show _ = _; rw [HK.out, hk.out, hr0, kpL_nil, List.append_nil]
        clear hr0
        clear hrs hk
        have HI := Lib.hid (IntsNew.at hN.out)
        cases hpk : planOK A acc
        · have HPK := Lib.hid hpk
          have HB : Hid (pA s = 0 ∧ pD s = false ∧ pL s = [] ∧ pE s = 8) := p_bad fun h => by
            obtain ⟨_, g1, g2, g3⟩ := ref_good h
            have g4 := (text_good h).1
            rw [← g1, ← g3, HA.out, HF.out, hpk] at g4
            cases g4
          clear hpk
          go_wp2_with fail
          refine (rText_bad A d _ acc _ HI.out (by omega) HPK.out).mono ?_
          rintro e w3 ⟨rfl, b1⟩
          have hR3 := hR.out.below b1
          have HR3 := Lib.hid hR3
          obtain ⟨⟨z0, z1, z2⟩, zf⟩ := hR3
          have zf0 := zf 0
          have zf1 := zf 1
          have zf2 := zf 2
          have c5 := c4.trans (b1.mono c4.size)
          clear zf b1 c4 p0 p1 p2 pf pf2
          go_wp2_with fail
          refine bodyPost_ret (results_plan_slot rfl _ _ w.heap.size 0 false (.slice none 0 0) (.int .i64 8) (HR3.out.set 0 false (.slice none 0 0)) rfl rfl) rfl ⟨⟨.slice none 0 0, by rw [HB.out.1, HB.out.2.1, HB.out.2.2.2], by rw [HB.out.2.2.1]; exact IntsNew.nil _ _⟩, ?_⟩
          exact below_set (below_set (below_set c5 _ (by omega) 0 _) _ (by omega) 1 _) _ (by omega) 2 _
        · have HPK := Lib.hid hpk
          obtain ⟨T, hT⟩ : ∃ T : ByteArray, T.data.toList = textB A d acc := ⟨pack (textB A d acc), pack_data _⟩
          have HT := Lib.hid hT
          clear hpk
          by_cases hTs : T = s
          · have heq : (T.toList == s.toList) = true := by rw [hTs]; exact beq_self_eq_true _
            have HG : Hid (pA s = A ∧ pD s = d ∧ pL s = acc ∧ pE s = 0) := by
              obtain ⟨h1, h2, h3, h4⟩ := good_text (s := s) HPK.out (by rw [← hTs]; exact hT)
              have h5 := p_good h1
              rw [h2, h3, h4] at h5
              exact h5
            clear hT hTs
            go_wp2_with fail
            refine (rText_good A d _ acc _ HI.out T HPK.out HT.out).mono ?_
            rintro e w3 ⟨rfl, b1⟩
            have hR3 := hR.out.below b1
            have HR3 := Lib.hid hR3
            obtain ⟨⟨z0, z1, z2⟩, zf⟩ := hR3
            have zf0 := zf 0
            have zf1 := zf 1
            have zf2 := zf 2
            have hp3 := hP.out.below b1
            obtain ⟨⟨y0, y1, y2⟩, yf⟩ := hp3
            have HN3 := Lib.hid (hN.out.below b1)
            have c5 := c4.trans (b1.mono c4.size)
            clear zf b1 c4 p0 p1 p2 pf pf2 yf
            go_wp2_with fail
            refine bodyPost_ret (results_plan_slot rfl _ _ w.heap.size A d (.slice p' acc.length c') (.int .i64 0) (HR3.out.set A d (.slice p' acc.length c')) rfl rfl) rfl ⟨⟨.slice p' acc.length c', by rw [HG.out.1, HG.out.2.1, HG.out.2.2.2], ?_⟩, ?_⟩
            · rw [HG.out.2.2.1]
              exact (((HN3.out.set ⟨w.heap.size, 0, none⟩ _ (by simp)).set ⟨w.heap.size, 1, none⟩ _ (by simp)).set ⟨w.heap.size, 2, none⟩ _ (by simp)).base (by omega)
            · exact below_set (below_set (below_set c5 _ (by omega) 0 _) _ (by omega) 1 _) _ (by omega) 2 _
          · have heq : (T.toList == s.toList) = false := is_false (fun h => hTs (by apply ByteArray.ext; apply Array.ext'; rw [h, ByteArray.toList_eq]))
            have HB : Hid (pA s = 0 ∧ pD s = false ∧ pL s = [] ∧ pE s = 8) := p_bad fun h => by
              obtain ⟨_, g1, g2, g3⟩ := ref_good h
              have g4 := (text_good h).2
              rw [← g1, ← g2, ← g3, HA.out, HD.out, HF.out] at g4
              exact hTs (by apply ByteArray.ext; apply Array.ext'; rw [hT, g4])
            clear hT hTs
            go_wp2_with fail
            refine (rText_good A d _ acc _ HI.out T HPK.out HT.out).mono ?_
            rintro e w3 ⟨rfl, b1⟩
            have hR3 := hR.out.below b1
            have HR3 := Lib.hid hR3
            obtain ⟨⟨z0, z1, z2⟩, zf⟩ := hR3
            have zf0 := zf 0
            have zf1 := zf 1
            have zf2 := zf 2
            have c5 := c4.trans (b1.mono c4.size)
            clear zf b1 c4 p0 p1 p2 pf pf2
            go_wp2_with fail
            refine bodyPost_ret (results_plan_slot rfl _ _ w.heap.size 0 false (.slice none 0 0) (.int .i64 8) (HR3.out.set 0 false (.slice none 0 0)) rfl rfl) rfl ⟨⟨.slice none 0 0, by rw [HB.out.1, HB.out.2.1, HB.out.2.2.2], by rw [HB.out.2.2.1]; exact IntsNew.nil _ _⟩, ?_⟩
            exact below_set (below_set (below_set c5 _ (by omega) 0 _) _ (by omega) 1 _) _ (by omega) 2 _
      · have hsz : 0 < (pack r).size := by rw [pack_size]; exact List.length_pos_iff.2 hr0
        have e1 : (pack r).toList.isEmpty = false := isEmpty_false (by omega)
        by_cases h34 : acc.length ≤ 34
        · have d2 : decide ((acc.length : Int) ≤ 34) = true := by rw [decide_eq_true_iff]; omega
          have hu := until_co (pack r) hrs
          rw [pack_data] at hu
          obtain ⟨k, hkk⟩ : ∃ k : Int, ((utL 44 0 0 r).1 : Int) = k := ⟨_, rfl⟩
          obtain ⟨q, hq⟩ : ∃ q, (utL 44 0 0 r).2 = q := ⟨_, rfl⟩
          have hql : q.length < r.length := by rw [← hq]; exact utL_shorter 44 r hr0
          have HQ : Hid (kpL 35 R2 = (acc ++ [k]) ++ kpL (35 - (acc ++ [k]).length) q) := by
            show _ = _
            have e : 35 - acc.length = (35 - (acc ++ [k]).length) + 1 := by simp; omega
            rw [hk.out, e, kpL, if_neg hr0, hkk, hq, List.append_assoc]
            rfl
          rw [hkk, hq] at hu
          have HU := Lib.hid hu
          have hq2 : q.length ≤ 1000000 := by have := hrl.out; omega
          have HQ2 := Lib.hid hq2
          have HQL := Lib.hid hql
          clear hr0 hu hkk hq hql hq2 hk
          go_wp2_with fail
          refine (HU.out _).mono ?_
          rintro e w3 ⟨rfl, b1⟩
          have hp3 := hP.out.below b1
          have HP3 := Lib.hid hp3
          obtain ⟨⟨p0, p1, p2⟩, pf⟩ := hp3
          have pf2 := pf 2
          have hN3 := Lib.hid (hN.out.below b1)
          have hR3 := Lib.hid (hR.out.below b1)
          have c5 := c4.trans (b1.mono c4.size)
          have hsw3 : w.heap.size + 2 ≤ w3.heap.size := Nat.le_trans hsw b1.size
          clear b1 c4 hP hN hR
          go_wp2_with (at_builtin; refine wpList_append_own _ rfl (.tmp 43) (.tmp 45) 36 rfl (w.heap.size + 2) 3 i0 (.int .i64 0) 1 8 Tryz.underlying36 hi0 hz0 hz1 hz2 rfl (by decide) _ _ _ rfl (hN3.out.alloc _) ⟨w3.heap.size, 0, none⟩ 1 1 [.int .i64 k] rfl rfl (cell_one_new _ _ _) (fun q hq => by simp at hq; subst hq; rfl) (by unfold maxLen; omega) (by omega) (by simp; omega) ?_)
          intro v' w4 hown hgrow _
          have HN4 : Hid (IntsNew (w.heap.size + 2) w4 v' (acc ++ [k])) := by
            show World.ownsRow _ _ _ _ _ _ _
            rw [List.map_append, List.length_append]
            exact hown
          obtain ⟨p4, c4', rfl⟩ := ownsRow_slice HN4.out
          have hne1 : some (w.heap.size + 1) ≠ (Value.slice p' acc.length c').ownBlock := own_off hN3.out (by omega)
          have hne0 : some w.heap.size ≠ (Value.slice p' acc.length c').ownBlock := own_off hN3.out (by omega)
          have a3 := (Below.refl w3.heap.size w3).alloc (Nat.le_refl _) (.cells #[.int .i64 k] 3)
          have hp4 := (HP3.out.below a3).grown hgrow hne1
          have HP4 := Lib.hid hp4
          obtain ⟨⟨s0, s1, s2⟩, sf⟩ := hp4
          have sf2 := sf 2
          have HR4 := Lib.hid ((hR3.out.below a3).grown hgrow hne0)
          have c6 : Below w.heap.size w w4 := (c5.alloc c5.size _).grown hgrow (by simp; omega) (fun k hk => by have := (World.ownsRow.lt hN3.out k hk).1; omega)
          have hsw4 : w.heap.size + 2 ≤ w4.heap.size := Nat.le_trans hsw3 (Nat.le_trans a3.size hgrow.size)
          clear hown hgrow hN3 hR3 c5 a3 sf pf p0 p1 p2 pf2 HP3
          go_wp2_with fail
          go_roundw
          case rel =>
            refine ⟨q, _, acc ++ [k], rfl, HQ2, by simp; omega, HQ, HP4.out.set2 _, ?_, HR4.out.other (by omega) _, below_set c6 _ (by omega) 2 _, by rw [World.size_setCell]; exact hsw4⟩
            have h := HN4.out.set ⟨w.heap.size + 1, 2, none⟩ (Value.slice p4 (acc ++ [k]).length c4') (by simp)
            rw [List.length_append] at h
            exact h
          case measure =>
            have := HQL.out
            show (pack q).size < (pack r).size
            rw [pack_size, pack_size]
            exact this
        · have d2 : decide ((acc.length : Int) ≤ 34) = false := by rw [decide_eq_false_iff_not]; omega
          have HF : Hid (refL s.data.toList = acc) := by
            show _ = _
            have e : 35 - acc.length = 0 := by omega
            rw [HK.out, hk.out, e, kpL, List.append_nil]
          clear hr0 h34
          clear hrs hk
          have HI := Lib.hid (IntsNew.at hN.out)
          cases hpk : planOK A acc
          · have HPK := Lib.hid hpk
            have HB : Hid (pA s = 0 ∧ pD s = false ∧ pL s = [] ∧ pE s = 8) := p_bad fun h => by
              obtain ⟨_, g1, g2, g3⟩ := ref_good h
              have g4 := (text_good h).1
              rw [← g1, ← g3, HA.out, HF.out, hpk] at g4
              cases g4
            clear hpk
            go_wp2_with fail
            refine (rText_bad A d _ acc _ HI.out (by omega) HPK.out).mono ?_
            rintro e w3 ⟨rfl, b1⟩
            have hR3 := hR.out.below b1
            have HR3 := Lib.hid hR3
            obtain ⟨⟨z0, z1, z2⟩, zf⟩ := hR3
            have zf0 := zf 0
            have zf1 := zf 1
            have zf2 := zf 2
            have c5 := c4.trans (b1.mono c4.size)
            clear zf b1 c4 p0 p1 p2 pf pf2
            go_wp2_with fail
            refine bodyPost_ret (results_plan_slot rfl _ _ w.heap.size 0 false (.slice none 0 0) (.int .i64 8) (HR3.out.set 0 false (.slice none 0 0)) rfl rfl) rfl ⟨⟨.slice none 0 0, by rw [HB.out.1, HB.out.2.1, HB.out.2.2.2], by rw [HB.out.2.2.1]; exact IntsNew.nil _ _⟩, ?_⟩
            exact below_set (below_set (below_set c5 _ (by omega) 0 _) _ (by omega) 1 _) _ (by omega) 2 _
          · have HPK := Lib.hid hpk
            obtain ⟨T, hT⟩ : ∃ T : ByteArray, T.data.toList = textB A d acc := ⟨pack (textB A d acc), pack_data _⟩
            have HT := Lib.hid hT
            clear hpk
            by_cases hTs : T = s
            · have heq : (T.toList == s.toList) = true := by rw [hTs]; exact beq_self_eq_true _
              have HG : Hid (pA s = A ∧ pD s = d ∧ pL s = acc ∧ pE s = 0) := by
                obtain ⟨h1, h2, h3, h4⟩ := good_text (s := s) HPK.out (by rw [← hTs]; exact hT)
                have h5 := p_good h1
                rw [h2, h3, h4] at h5
                exact h5
              clear hT hTs
              go_wp2_with fail
              refine (rText_good A d _ acc _ HI.out T HPK.out HT.out).mono ?_
              rintro e w3 ⟨rfl, b1⟩
              have hR3 := hR.out.below b1
              have HR3 := Lib.hid hR3
              obtain ⟨⟨z0, z1, z2⟩, zf⟩ := hR3
              have zf0 := zf 0
              have zf1 := zf 1
              have zf2 := zf 2
              have hp3 := hP.out.below b1
              obtain ⟨⟨y0, y1, y2⟩, yf⟩ := hp3
              have HN3 := Lib.hid (hN.out.below b1)
              have c5 := c4.trans (b1.mono c4.size)
              clear zf b1 c4 p0 p1 p2 pf pf2 yf
              go_wp2_with fail
              refine bodyPost_ret (results_plan_slot rfl _ _ w.heap.size A d (.slice p' acc.length c') (.int .i64 0) (HR3.out.set A d (.slice p' acc.length c')) rfl rfl) rfl ⟨⟨.slice p' acc.length c', by rw [HG.out.1, HG.out.2.1, HG.out.2.2.2], ?_⟩, ?_⟩
              · rw [HG.out.2.2.1]
                exact (((HN3.out.set ⟨w.heap.size, 0, none⟩ _ (by simp)).set ⟨w.heap.size, 1, none⟩ _ (by simp)).set ⟨w.heap.size, 2, none⟩ _ (by simp)).base (by omega)
              · exact below_set (below_set (below_set c5 _ (by omega) 0 _) _ (by omega) 1 _) _ (by omega) 2 _
            · have heq : (T.toList == s.toList) = false := is_false (fun h => hTs (by apply ByteArray.ext; apply Array.ext'; rw [h, ByteArray.toList_eq]))
              have HB : Hid (pA s = 0 ∧ pD s = false ∧ pL s = [] ∧ pE s = 8) := p_bad fun h => by
                obtain ⟨_, g1, g2, g3⟩ := ref_good h
                have g4 := (text_good h).2
                rw [← g1, ← g2, ← g3, HA.out, HD.out, HF.out] at g4
                exact hTs (by apply ByteArray.ext; apply Array.ext'; rw [hT, g4])
              clear hT hTs
              go_wp2_with fail
              refine (rText_good A d _ acc _ HI.out T HPK.out HT.out).mono ?_
              rintro e w3 ⟨rfl, b1⟩
              have hR3 := hR.out.below b1
              have HR3 := Lib.hid hR3
              obtain ⟨⟨z0, z1, z2⟩, zf⟩ := hR3
              have zf0 := zf 0
              have zf1 := zf 1
              have zf2 := zf 2
              have c5 := c4.trans (b1.mono c4.size)
              clear zf b1 c4 p0 p1 p2 pf pf2
              go_wp2_with fail
              refine bodyPost_ret (results_plan_slot rfl _ _ w.heap.size 0 false (.slice none 0 0) (.int .i64 8) (HR3.out.set 0 false (.slice none 0 0)) rfl rfl) rfl ⟨⟨.slice none 0 0, by rw [HB.out.1, HB.out.2.1, HB.out.2.2.2], by rw [HB.out.2.2.1]; exact IntsNew.nil _ _⟩, ?_⟩
              exact below_set (below_set (below_set c5 _ (by omega) 0 _) _ (by omega) 1 _) _ (by omega) 2 _
end Go.Proofs.YtlmbcclggaflaaaGreatDoor
namespace Go.Proofs.YtlmbcclggaflaaaGreatDoor
open Go Go.RowKit

theorem rdig39_is (k : Int) (h0 : 0 ≤ k) (h1 : k ≤ 1000000) (D : ByteArray) (hD : dB k = D) (w : World) :
    Calls Tryz.prog 106 #[.int .i64 k] w fun e w' => e = .returned (.string D) ∧ Below w.heap.size w w' := by
  obtain ⟨n, rfl⟩ : ∃ n : Nat, k = (n : Int) := ⟨k.toNat, by omega⟩
  have h := rdig39_any (n + 1) n w (Nat.lt_succ_self n) (by show n ≤ 1000000000; omega)
  rw [← hD]
  exact h
theorem results_pl {fn : Func} {s t u : Tmp} (h : fn.results = #[.tmp s, .cell t 38, .tmp u]) (tmps : Array Value) (w : World) (B : Nat) (A : Int) (d : Bool) (v : Value) (p q : Value) (hp : PlanAt w B A d v) (hs : tmps.getD s undef = p) (ht : tmps.getD t undef = .pointer (some ⟨B, 0, none⟩)) (hu : tmps.getD u undef = q) : (results fn tmps).run Tryz.prog w = .ok (.tuple #[p, planV A d v, q]) w := by
  obtain ⟨⟨h0, h1, h2⟩, _⟩ := hp
  have hs' : tmps[s]?.getD undef = p := by simpa using hs
  have ht' : tmps[t]?.getD undef = .pointer (some ⟨B, 0, none⟩) := by simpa using ht
  have hu' : tmps[u]?.getD undef = q := by simpa using hu
  simp [results, h, hs', ht', hu', asAddr]
  go_simp
  done
theorem plan_new2 (w : World) (o : Obj) (A : Int) (d : Bool) (v : Value) (t : TypeId) : PlanAt ((w.alloc o).alloc (.cells #[.int .i64 A, .bool d, v] t)) (w.heap.size + 1) A d v := by
  have h := PlanAt.new (w.alloc o) A d v t
  rw [World.size_alloc] at h
  exact h
set_option maxRecDepth 100000 in
set_option maxHeartbeats 2000000 in
theorem rplan_bad (k a b : Int) (x v : ByteArray) (h : ¬ (0 ≤ a ∧ a ≤ 1000000 ∧ (b = 0 ∨ b = 1))) (w : World) :
    Calls Tryz.prog 75 #[opA k a b x v] w fun e w' => e = .returned (.tuple #[.string ⟨#[]⟩, planV 0 false (.slice none 0 0), .int .i64 2]) ∧ Below w.heap.size w w' := by
  rcases (show a < 0 ∨ (0 ≤ a ∧ 1000000 < a) ∨ (0 ≤ a ∧ a ≤ 1000000 ∧ b < 0) ∨ (0 ≤ a ∧ a ≤ 1000000 ∧ 0 ≤ b ∧ 1 < b) by omega) with h1 | ⟨h1, h2⟩ | ⟨h1, h2, h3⟩ | ⟨h1, h2, h3, h4⟩
  · have d1 : decide (a < 0) = true := decide_eq_true h1
    clear h1
    clear h
    go_enter Tryz.func75, Tryz.ntmps75
    go_wp2_with fail
    exact bodyPost_ret (results_pl rfl _ _ (w.heap.size + 1) 0 false (.slice none 0 0) _ _ (plan_new2 _ _ _ _ _ _) rfl rfl rfl) rfl ⟨rfl, below2 _ _ _⟩
  · have d1 : decide (a < 0) = false := decide_eq_false (by omega)
    have d2 : decide (1000000 < a) = true := decide_eq_true h2
    clear h1 h2
    clear h
    go_enter Tryz.func75, Tryz.ntmps75
    go_wp2_with fail
    exact bodyPost_ret (results_pl rfl _ _ (w.heap.size + 1) 0 false (.slice none 0 0) _ _ (plan_new2 _ _ _ _ _ _) rfl rfl rfl) rfl ⟨rfl, below2 _ _ _⟩
  · have d1 : decide (a < 0) = false := decide_eq_false (by omega)
    have d2 : decide (1000000 < a) = false := decide_eq_false (by omega)
    have d3 : decide (b < 0) = true := decide_eq_true h3
    clear h1 h2 h3
    clear h
    go_enter Tryz.func75, Tryz.ntmps75
    go_wp2_with fail
    exact bodyPost_ret (results_pl rfl _ _ (w.heap.size + 1) 0 false (.slice none 0 0) _ _ (plan_new2 _ _ _ _ _ _) rfl rfl rfl) rfl ⟨rfl, below2 _ _ _⟩
  · have d1 : decide (a < 0) = false := decide_eq_false (by omega)
    have d2 : decide (1000000 < a) = false := decide_eq_false (by omega)
    have d3 : decide (b < 0) = false := decide_eq_false (by omega)
    have d4 : decide (1 < b) = true := decide_eq_true h4
    clear h1 h2 h3 h4
    clear h
    go_enter Tryz.func75, Tryz.ntmps75
    go_wp2_with fail
    exact bodyPost_ret (results_pl rfl _ _ (w.heap.size + 1) 0 false (.slice none 0 0) _ _ (plan_new2 _ _ _ _ _ _) rfl rfl rfl) rfl ⟨rfl, below2 _ _ _⟩
set_option maxRecDepth 100000 in
set_option maxHeartbeats 4000000 in
theorem rplan_no (k a : Int) (x v : ByteArray) (h0 : 0 ≤ a) (h1 : a ≤ 1000000) (hv : v.size ≤ 100000) (T : ByteArray) (hT : T.data.toList = crashL a 0 v.data.toList) (w : World) :
    Calls Tryz.prog 75 #[opA k a 0 x v] w fun e w' => (∃ s, e = .returned (.tuple #[.string T, planV (pA T) (pD T) s, .int .i64 (pE T)]) ∧ IntsNew w.heap.size w' s (pL T)) ∧ Below w.heap.size w w' := by
  have d1 : decide (a < 0) = false := decide_eq_false (by omega)
  have d2 : decide (1000000 < a) = false := decide_eq_false (by omega)
  obtain ⟨D, hD⟩ : ∃ D, dB a = D := ⟨_, rfl⟩
  have hDs : D.size ≤ 7 := by rw [← hD]; exact dB_size a h1
  have hsum : (D ++ ⟨#[32, 110, 32]⟩) ++ v = T := by
    apply ByteArray.ext
    apply Array.ext'
    rw [hT, ← hD]
    simp [crashL, dB, pack]
  have hTs : T.size ≤ 200000 := by
    rw [← hsum]
    simp only [ByteArray.size_append]
    have e1 : (⟨#[32, 110, 32]⟩ : ByteArray).size = 3 := rfl
    omega
  have q1 : ¬ 9223372036854775807 < D.size + 3 := by omega
  have q2 : ¬ 9223372036854775807 < D.size + 3 + v.size := by omega
  have HD := Lib.hid hD
  have HSM := Lib.hid hsum
  have HTS := Lib.hid hTs
  have HA := Lib.hid (And.intro h0 h1)
  clear hD hDs hsum hTs h0 h1 hT hv
  go_enter Tryz.func75, Tryz.ntmps75
  go_wp2_with fail
  have H1 := Lib.hid ((OpBox.new w k a 0 x v 28).below ((Below.refl _ (w.alloc (.cells #[.int .i64 k, .int .i64 a, .int .i64 0, .string x, .string v] 28))).alloc (Nat.le_refl _) (.cells #[.int .i64 0, .bool false, .slice none 0 0] 38)))
  have HP := Lib.hid (plan_new2 w (.cells #[.int .i64 k, .int .i64 a, .int .i64 0, .string x, .string v] 28) 0 false (.slice none 0 0) 38)
  have HC := Lib.hid (below2 w (.cells #[.int .i64 k, .int .i64 a, .int .i64 0, .string x, .string v] 28) (.cells #[.int .i64 0, .bool false, .slice none 0 0] 38))
  generalize (w.alloc (.cells #[.int .i64 k, .int .i64 a, .int .i64 0, .string x, .string v] 28)).alloc (.cells #[.int .i64 0, .bool false, .slice none 0 0] 38) = w1 at *
  obtain ⟨⟨p0, p1, p2, p3, p4⟩, pf⟩ := H1.out
  clear pf
  have k1d : w1.drew.cell? ⟨w.heap.size, 1, none⟩ = some (.int .i64 a) := p1
  have k4d : w1.drew.cell? ⟨w.heap.size, 4, none⟩ = some (.string v) := p4
  have cd : Below w1.heap.size w1 w1.drew := (Below.refl w1.heap.size w1).drew
  clear p0 p1 p2 p3 p4
  go_region_held3 (fun w' => w'.cell? ⟨w.heap.size, 1, none⟩ = some (.int .i64 a) ∧ w'.cell? ⟨w.heap.size, 4, none⟩ = some (.string v))
    (first
      | with_reducible exact ⟨k1d, k4d⟩
      | with_reducible exact ⟨g1, g4⟩)
    (first | (go_at_call 106; refine (rdig39_is a HA.out.1 HA.out.2 D HD.out _).mono ?_; rintro e w2 ⟨rfl, b1⟩; have g1 := cell_kept k1d b1; have g4 := cell_kept k4d b1; have cA := cd.trans (b1.mono cd.size); clear b1))
  replace H1 := Lib.hid (H1.out.below cA)
  replace HP := Lib.hid (HP.out.below cA)
  replace HC := Lib.hid (HC.out.trans (cA.mono HC.out.size))
  obtain ⟨⟨p0, p1, p2, p3, p4⟩, pf⟩ := H1.out
  clear pf g1 g4 k1d k4d cd cA
  go_wp2_with fail
  clear p0 p1 p2 p3 p4
  rw [HSM.out]
  refine (refParse_any T (by have := HTS.out; omega) _).mono ?_
  rintro e w4 ⟨⟨s4, rfl, hn4⟩, b4⟩
  obtain ⟨q4, n4, rfl⟩ := ownsRow_slice hn4
  have HLB := Lib.hid HP.out.lt
  replace HP := Lib.hid (HP.out.below b4)
  have hN4 := Lib.hid hn4
  replace HC := Lib.hid (HC.out.trans (b4.mono HC.out.size))
  obtain ⟨A, hA⟩ : ∃ A, pA T = A := ⟨_, rfl⟩
  obtain ⟨d, hd⟩ : ∃ d, pD T = d := ⟨_, rfl⟩
  obtain ⟨E, hE⟩ : ∃ E, pE T = E := ⟨_, rfl⟩
  obtain ⟨L, hL⟩ : ∃ L, pL T = L := ⟨_, rfl⟩
  rw [hA, hd, hE]
  rw [hL] at hN4 ⊢
  rw [hL] at hn4
  have HEQ := Lib.hid (And.intro hA (And.intro hd (And.intro hE hL)))
  clear H1 hA hd hE hL HSM HTS HA HD hn4 b4
  have a5 := (Below.refl w4.heap.size w4).alloc (Nat.le_refl _) (.cells #[.int .i64 A, .bool d, .slice q4 L.length n4] 38)
  have HQ := Lib.hid (PlanAt.new w4 A d (.slice q4 L.length n4) 38)
  have HP5 := Lib.hid (HP.out.below a5)
  have hN5 := Lib.hid (IntsNew.below hN4.out a5)
  have HC5 := Lib.hid (HC.out.trans (a5.mono HC.out.size))
  have HLT : Hid (w.heap.size + 1 < w4.heap.size) := HP.out.lt
  go_wp2_with fail
  generalize (w4.alloc (.cells #[.int .i64 A, .bool d, .slice q4 L.length n4] 38)) = w5 at *
  clear a5 HP hN4 HC
  obtain ⟨F, hF⟩ : ∃ F, w4.heap.size = F := ⟨_, rfl⟩
  rw [hF] at HQ HLT
  rw [hF]
  clear hF
  obtain ⟨⟨u0, u1, u2⟩, uf⟩ := HP5.out
  obtain ⟨⟨v0, v1, v2⟩, vf⟩ := HQ.out
  have uf0 := uf 0
  have uf1 := uf 1
  have uf2 := uf 2
  clear uf vf
  go_region
  go_wp2_with fail
  have HPs := Lib.hid (HP5.out.set A d (.slice q4 L.length n4))
  have hNs := Lib.hid ((((hN5.out.set ⟨w.heap.size + 1, 0, none⟩ (.int .i64 A) HLB.out).set ⟨w.heap.size + 1, 1, none⟩ (.bool d) HLB.out).set ⟨w.heap.size + 1, 2, none⟩ (.slice q4 L.length n4) HLB.out).base (Nat.le_trans (Nat.le_succ _) (Nat.le_of_lt HLB.out)))
  have HCs := Lib.hid (below_set (below_set (below_set HC5.out (w.heap.size + 1) (Nat.le_succ _) 0 (.int .i64 A)) (w.heap.size + 1) (Nat.le_succ _) 1 (.bool d)) (w.heap.size + 1) (Nat.le_succ _) 2 (.slice q4 L.length n4))
  exact bodyPost_ret (results_pl rfl _ _ (w.heap.size + 1) A d (.slice q4 L.length n4) _ _ HPs.out rfl rfl rfl) rfl ⟨⟨.slice q4 L.length n4, by rw [HEQ.out.1, HEQ.out.2.1, HEQ.out.2.2.1]; rfl, by rw [HEQ.out.2.2.2]; exact hNs.out⟩, HCs.out.drew⟩
set_option maxRecDepth 100000 in
set_option maxHeartbeats 4000000 in
theorem rplan_yes (k a : Int) (x v : ByteArray) (h0 : 0 ≤ a) (h1 : a ≤ 1000000) (hv : v.size ≤ 100000) (T : ByteArray) (hT : T.data.toList = crashL a 1 v.data.toList) (w : World) :
    Calls Tryz.prog 75 #[opA k a 1 x v] w fun e w' => (∃ s, e = .returned (.tuple #[.string T, planV (pA T) (pD T) s, .int .i64 (pE T)]) ∧ IntsNew w.heap.size w' s (pL T)) ∧ Below w.heap.size w w' := by
  have d1 : decide (a < 0) = false := decide_eq_false (by omega)
  have d2 : decide (1000000 < a) = false := decide_eq_false (by omega)
  obtain ⟨D, hD⟩ : ∃ D, dB a = D := ⟨_, rfl⟩
  have hDs : D.size ≤ 7 := by rw [← hD]; exact dB_size a h1
  have hsum : (D ++ ⟨#[32, 121, 32]⟩) ++ v = T := by
    apply ByteArray.ext
    apply Array.ext'
    rw [hT, ← hD]
    simp [crashL, dB, pack]
  have hTs : T.size ≤ 200000 := by
    rw [← hsum]
    simp only [ByteArray.size_append]
    have e1 : (⟨#[32, 121, 32]⟩ : ByteArray).size = 3 := rfl
    omega
  have q1 : ¬ 9223372036854775807 < D.size + 3 := by omega
  have q2 : ¬ 9223372036854775807 < D.size + 3 + v.size := by omega
  have HD := Lib.hid hD
  have HSM := Lib.hid hsum
  have HTS := Lib.hid hTs
  have HA := Lib.hid (And.intro h0 h1)
  clear hD hDs hsum hTs h0 h1 hT hv
  go_enter Tryz.func75, Tryz.ntmps75
  go_wp2_with fail
  have H1 := Lib.hid ((OpBox.new w k a 1 x v 28).below ((Below.refl _ (w.alloc (.cells #[.int .i64 k, .int .i64 a, .int .i64 1, .string x, .string v] 28))).alloc (Nat.le_refl _) (.cells #[.int .i64 0, .bool false, .slice none 0 0] 38)))
  have HP := Lib.hid (plan_new2 w (.cells #[.int .i64 k, .int .i64 a, .int .i64 1, .string x, .string v] 28) 0 false (.slice none 0 0) 38)
  have HC := Lib.hid (below2 w (.cells #[.int .i64 k, .int .i64 a, .int .i64 1, .string x, .string v] 28) (.cells #[.int .i64 0, .bool false, .slice none 0 0] 38))
  generalize (w.alloc (.cells #[.int .i64 k, .int .i64 a, .int .i64 1, .string x, .string v] 28)).alloc (.cells #[.int .i64 0, .bool false, .slice none 0 0] 38) = w1 at *
  obtain ⟨⟨p0, p1, p2, p3, p4⟩, pf⟩ := H1.out
  clear pf
  have k1d : w1.drew.cell? ⟨w.heap.size, 1, none⟩ = some (.int .i64 a) := p1
  have k4d : w1.drew.cell? ⟨w.heap.size, 4, none⟩ = some (.string v) := p4
  have cd : Below w1.heap.size w1 w1.drew := (Below.refl w1.heap.size w1).drew
  clear p0 p1 p2 p3 p4
  go_region_held3 (fun w' => w'.cell? ⟨w.heap.size, 1, none⟩ = some (.int .i64 a) ∧ w'.cell? ⟨w.heap.size, 4, none⟩ = some (.string v))
    (first
      | with_reducible exact ⟨k1d, k4d⟩
      | with_reducible exact ⟨g1, g4⟩)
    (first | (go_at_call 106; refine (rdig39_is a HA.out.1 HA.out.2 D HD.out _).mono ?_; rintro e w2 ⟨rfl, b1⟩; have g1 := cell_kept k1d b1; have g4 := cell_kept k4d b1; have cA := cd.trans (b1.mono cd.size); clear b1))
  replace H1 := Lib.hid (H1.out.below cA)
  replace HP := Lib.hid (HP.out.below cA)
  replace HC := Lib.hid (HC.out.trans (cA.mono HC.out.size))
  obtain ⟨⟨p0, p1, p2, p3, p4⟩, pf⟩ := H1.out
  clear pf g1 g4 k1d k4d cd cA
  go_wp2_with fail
  have k1d : w2.drew.cell? ⟨w.heap.size, 1, none⟩ = some (.int .i64 a) := p1
  have k4d : w2.drew.cell? ⟨w.heap.size, 4, none⟩ = some (.string v) := p4
  have cd : Below w2.heap.size w2 w2.drew := (Below.refl w2.heap.size w2).drew
  clear p0 p1 p2 p3 p4
  go_region_held3 (fun w' => w'.cell? ⟨w.heap.size, 1, none⟩ = some (.int .i64 a) ∧ w'.cell? ⟨w.heap.size, 4, none⟩ = some (.string v))
    (first
      | with_reducible exact ⟨k1d, k4d⟩
      | with_reducible exact ⟨g1, g4⟩)
    (first | (go_at_call 106; refine (rdig39_is a HA.out.1 HA.out.2 D HD.out _).mono ?_; rintro e w3 ⟨rfl, b1⟩; have g1 := cell_kept k1d b1; have g4 := cell_kept k4d b1; have cA := cd.trans (b1.mono cd.size); clear b1))
  replace H1 := Lib.hid (H1.out.below cA)
  replace HP := Lib.hid (HP.out.below cA)
  replace HC := Lib.hid (HC.out.trans (cA.mono HC.out.size))
  obtain ⟨⟨p0, p1, p2, p3, p4⟩, pf⟩ := H1.out
  clear pf g1 g4 k1d k4d cd cA
  go_wp2_with fail
  clear p0 p1 p2 p3 p4
  rw [HSM.out]
  refine (refParse_any T (by have := HTS.out; omega) _).mono ?_
  rintro e w4 ⟨⟨s4, rfl, hn4⟩, b4⟩
  obtain ⟨q4, n4, rfl⟩ := ownsRow_slice hn4
  have HLB := Lib.hid HP.out.lt
  replace HP := Lib.hid (HP.out.below b4)
  have hN4 := Lib.hid hn4
  replace HC := Lib.hid (HC.out.trans (b4.mono HC.out.size))
  obtain ⟨A, hA⟩ : ∃ A, pA T = A := ⟨_, rfl⟩
  obtain ⟨d, hd⟩ : ∃ d, pD T = d := ⟨_, rfl⟩
  obtain ⟨E, hE⟩ : ∃ E, pE T = E := ⟨_, rfl⟩
  obtain ⟨L, hL⟩ : ∃ L, pL T = L := ⟨_, rfl⟩
  rw [hA, hd, hE]
  rw [hL] at hN4 ⊢
  rw [hL] at hn4
  have HEQ := Lib.hid (And.intro hA (And.intro hd (And.intro hE hL)))
  clear H1 hA hd hE hL HSM HTS HA HD hn4 b4
  have a5 := (Below.refl w4.heap.size w4).alloc (Nat.le_refl _) (.cells #[.int .i64 A, .bool d, .slice q4 L.length n4] 38)
  have HQ := Lib.hid (PlanAt.new w4 A d (.slice q4 L.length n4) 38)
  have HP5 := Lib.hid (HP.out.below a5)
  have hN5 := Lib.hid (IntsNew.below hN4.out a5)
  have HC5 := Lib.hid (HC.out.trans (a5.mono HC.out.size))
  have HLT : Hid (w.heap.size + 1 < w4.heap.size) := HP.out.lt
  go_wp2_with fail
  generalize (w4.alloc (.cells #[.int .i64 A, .bool d, .slice q4 L.length n4] 38)) = w5 at *
  clear a5 HP hN4 HC
  obtain ⟨F, hF⟩ : ∃ F, w4.heap.size = F := ⟨_, rfl⟩
  rw [hF] at HQ HLT
  rw [hF]
  clear hF
  obtain ⟨⟨u0, u1, u2⟩, uf⟩ := HP5.out
  obtain ⟨⟨v0, v1, v2⟩, vf⟩ := HQ.out
  have uf0 := uf 0
  have uf1 := uf 1
  have uf2 := uf 2
  clear uf vf
  go_region
  go_wp2_with fail
  have HPs := Lib.hid (HP5.out.set A d (.slice q4 L.length n4))
  have hNs := Lib.hid ((((hN5.out.set ⟨w.heap.size + 1, 0, none⟩ (.int .i64 A) HLB.out).set ⟨w.heap.size + 1, 1, none⟩ (.bool d) HLB.out).set ⟨w.heap.size + 1, 2, none⟩ (.slice q4 L.length n4) HLB.out).base (Nat.le_trans (Nat.le_succ _) (Nat.le_of_lt HLB.out)))
  have HCs := Lib.hid (below_set (below_set (below_set HC5.out (w.heap.size + 1) (Nat.le_succ _) 0 (.int .i64 A)) (w.heap.size + 1) (Nat.le_succ _) 1 (.bool d)) (w.heap.size + 1) (Nat.le_succ _) 2 (.slice q4 L.length n4))
  exact bodyPost_ret (results_pl rfl _ _ (w.heap.size + 1) A d (.slice q4 L.length n4) _ _ HPs.out rfl rfl rfl) rfl ⟨⟨.slice q4 L.length n4, by rw [HEQ.out.1, HEQ.out.2.1, HEQ.out.2.2.1]; rfl, by rw [HEQ.out.2.2.2]; exact hNs.out⟩, HCs.out.drew⟩
end Go.Proofs.YtlmbcclggaflaaaGreatDoor
namespace Go.Proofs.YtlmbcclggaflaaaGreatDoor
open Go Go.RowKit

theorem index_at : ∀ (l : List UInt8) (c : UInt8) (i : Nat), i < l.length → l.getD i 0 = c → (∀ j, j < i → l.getD j 0 ≠ c) → Lib.indexByte l c = i
  | [], c, i, h, _, _ => by simp at h
  | x :: r, c, 0, _, h, _ => by
    have h : x = c := h
    simp [Lib.indexByte, h]
  | x :: r, c, i + 1, h1, h2, h3 => by
    have hx : x ≠ c := h3 0 (by omega)
    have ih := index_at r c i (by simpa using h1) h2 (fun j hj => h3 (j + 1) (by omega))
    have hb : (x == c) = false := by simpa using hx
    simp only [Lib.indexByte, hb, ih]
    simp
theorem index_out {l : List UInt8} {c : UInt8} (h : ∀ j, j < l.length → l.getD j 0 ≠ c) : Lib.indexByte l c = -1 := by
  refine index_none fun b hb => ?_
  obtain ⟨j, hj, rfl⟩ := List.getElem_of_mem hb
  have := h j hj
  rwa [List.getD, List.getElem?_eq_getElem hj] at this
theorem letters_any (w : World) :
    Calls Tryz.prog 145 #[] w fun e w' => e = .returned (.string keyS) ∧ w = w' := by
  go_enter Tryz.func145, Tryz.ntmps145
  go_wp2_with fail
  go_ret
  exact ⟨rfl, rfl⟩

set_option maxHeartbeats 1000000 in
theorem place_any (c : UInt8) (w : World) :
    Calls Tryz.prog 128 #[.int .u8 (c.toNat : Int)] w fun e w' => e = .returned (.int .i64 (Lib.indexByte keyL c)) ∧ w = w' := by
  go_enter Tryz.func128, Tryz.ntmps128
  go_wp2_with fail
  go_loop [3] (fun vi => ∃ i : Nat, i ≤ 39 ∧ vi = .int .i64 i ∧ Hid (∀ j, j < i → keyL.getD j 0 ≠ c)) (fun vi => 39 - (intOf vi).toNat)
  case atStart => exact ⟨0, Nat.zero_le _, rfl, fun j hj => absurd hj (Nat.not_lt_zero _)⟩
  case round =>
    obtain ⟨i, hi, rfl, hk⟩ := hrel
    by_cases hlt : i < 39
    · obtain ⟨x, hx⟩ : ∃ x, keyL.getD i 0 = x := ⟨_, rfl⟩
      have i1 := run_str_at (P := Tryz.prog) keyS 9 Tryz.underlying9 .i64 (i : Int) i rfl (by show i < 39; exact hlt) x hx.symm
      have hsz : keyS.size = 39 := rfl
      have HS := Lib.hid hsz
      clear hsz
      by_cases hxc : x = c
      · have HI := Lib.hid (index_at keyL c i (by show i < 39; exact hlt) (by rw [hx, hxc]) hk.out)
        have he : ((x.toNat : Int) == (c.toNat : Int)) = true := by rw [hxc]; simp
        clear hx hxc hk
        go_wp2_with fail
        refine (letters_any _).mono ?_
        rintro e w' ⟨rfl, rfl⟩
        go_wp2_with fail
        refine (letters_any _).mono ?_
        rintro e w' ⟨rfl, rfl⟩
        go_wp2_with fail
        go_ret
        exact ⟨by rw [HI.out]; rfl, rfl⟩
      · have he : ((x.toNat : Int) == (c.toNat : Int)) = false := by
          rw [beq_eq_false_iff_ne]; intro h; exact hxc (UInt8.toNat_inj.1 (by omega))
        have HK : Hid (∀ j, j < i + 1 → keyL.getD j 0 ≠ c) := by
          intro j hj
          by_cases h : j < i
          · exact hk.out j h
          · obtain rfl : j = i := by omega
            rw [hx]; exact hxc
        clear hx hxc hk
        go_wp2_with fail
        refine (letters_any _).mono ?_
        rintro e w' ⟨rfl, rfl⟩
        go_wp2_with fail
        refine (letters_any _).mono ?_
        rintro e w' ⟨rfl, rfl⟩
        go_wp2_with fail
        go_round
        case rel => exact ⟨i + 1, by omega, by go_num, HK⟩
        case measure => simp [intOf]; omega
    · obtain rfl : i = 39 := by omega
      have HI := Lib.hid (index_out (l := keyL) (c := c) (fun j hj => hk.out j hj))
      clear hk
      go_wp2_with fail
      refine (letters_any _).mono ?_
      rintro e w' ⟨rfl, rfl⟩
      go_wp2_with fail
      go_ret
      exact ⟨by rw [HI.out]; rfl, rfl⟩

set_option maxHeartbeats 1000000 in
theorem rkcheck_any (s : ByteArray) (hz : s.size ≤ 1099511627776) (w : World) :
    Calls Tryz.prog 107 #[.string s] w fun e w' => e = .returned (.int .i64 (keyV s.data.toList)) ∧ w = w' := by
  have hlen : s.data.toList.length = s.size := str_len s
  by_cases h0 : s.size = 0
  · have e1 : s.toList.isEmpty = true := isEmpty_true h0
    have HB := Lib.hid (keyV_empty (l := s.data.toList) (by omega))
    clear hlen h0
    go_enter Tryz.func107, Tryz.ntmps107
    go_wp2_with fail
    go_ret
    exact ⟨by rw [HB.out]; rfl, rfl⟩
  · have e1 : s.toList.isEmpty = false := by
      rw [ByteArray.toList_eq, List.isEmpty_eq_false_iff]
      intro h
      rw [h] at hlen
      simp at hlen
      omega
    go_enter Tryz.func107, Tryz.ntmps107
    go_wp2_with fail
    go_loop [3] (fun vi => ∃ i : Nat, i ≤ s.size ∧ vi = .int .i64 i ∧ Hid (∀ j, j < i → isKey (s.data.toList.getD j 0) = true)) (fun vi => s.size - (intOf vi).toNat)
    case atStart => exact ⟨0, Nat.zero_le _, rfl, fun j hj => absurd hj (Nat.not_lt_zero _)⟩
    case round =>
      obtain ⟨i, hi, rfl, hk⟩ := hrel
      by_cases hlt : i < s.size
      · obtain ⟨c, hc⟩ : ∃ c, s.data.toList.getD i 0 = c := ⟨_, rfl⟩
        have i1 := run_str_at (P := Tryz.prog) s 9 Tryz.underlying9 .i64 (i : Int) i rfl hlt c hc.symm
        obtain ⟨q, hq⟩ : ∃ q, Lib.indexByte keyL c = q := ⟨_, rfl⟩
        have HQ := Lib.hid hq
        by_cases hx : isKey c = true
        · have d1 : decide (q < 0) = false := by
            unfold isKey at hx
            rw [hq] at hx
            rw [decide_eq_true_iff] at hx
            rw [decide_eq_false_iff_not]; omega
          have HK : Hid (∀ j, j < i + 1 → isKey (s.data.toList.getD j 0) = true) := by
            intro j hj
            by_cases h : j < i
            · exact hk.out j h
            · obtain rfl : j = i := by omega
              rw [hc]; exact hx
          clear hc hx hk hq hlen
          go_wp2_with fail
          refine (place_any c _).mono ?_
          rw [HQ.out]
          rintro e w' ⟨rfl, rfl⟩
          go_wp2_with fail
          go_round
          case rel => exact ⟨i + 1, by omega, by go_num, HK⟩
          case measure => simp [intOf]; omega
        · have hx : isKey c = false := by simpa using hx
          have d1 : decide (q < 0) = true := by
            unfold isKey at hx
            rw [hq] at hx
            rw [decide_eq_false_iff_not] at hx
            rw [decide_eq_true_iff]; omega
          have HB := Lib.hid (keyV_bad (all_bad (l := s.data.toList) (p := isKey) i (by omega) (by rw [hc]; exact hx)))
          clear hc hx hk hq hlen
          go_wp2_with fail
          refine (place_any c _).mono ?_
          rw [HQ.out]
          rintro e w' ⟨rfl, rfl⟩
          go_wp2_with fail
          go_ret
          exact ⟨by rw [HB.out]; rfl, rfl⟩
      · obtain rfl : i = s.size := by omega
        have HA : Hid (s.data.toList.all isKey = true) := all_of fun j hj => hk.out j (by omega)
        clear hk
        by_cases h2 : 32 < s.size
        · have d1 : decide ((32 : Int) < (s.size : Int)) = true := by rw [decide_eq_true_iff]; omega
          have HB := Lib.hid (keyV_large HA.out (by omega))
          clear h2 hlt hlen h0
          go_wp2_with fail
          go_ret
          exact ⟨by rw [HB.out]; rfl, rfl⟩
        · have d1 : decide ((32 : Int) < (s.size : Int)) = false := by rw [decide_eq_false_iff_not]; omega
          have HB := Lib.hid (keyV_ok HA.out (by omega) (by omega))
          clear h2 hlt hlen h0
          go_wp2_with fail
          go_ret
          exact ⟨by rw [HB.out]; rfl, rfl⟩
end Go.Proofs.YtlmbcclggaflaaaGreatDoor
namespace Go.Proofs.YtlmbcclggaflaaaGreatDoor
open Go Go.RowKit

theorem opHeld : Tryz.prog.stoodInHeld 28 = false := by kernel_rfl
theorem opGuard : Tryz.prog.eqGuardType Tryz.prog.depth 28 = false := by kernel_rfl
theorem bytes_ne {x y : ByteArray} (h : ¬ x = y) : ¬ x.toList = y.toList := by
  intro e
  rw [ByteArray.toList_eq, ByteArray.toList_eq] at e
  exact h (by rw [← data_pack x, ← data_pack y, e])
/-- Two operations as values are told apart. -/
theorem op_equal (o p : OpD) (w : World) : (Op.equalIn 10000 28 (opV o) (opV p)).run Tryz.prog w = .ok (decide (o = p)) w := by
  have hS : Tryz.prog.underlying 28 = some (.struct (Tryz.prog.fieldsOf 28)) := by kernel_rfl
  obtain ⟨k, a, b, x, v⟩ := o
  obtain ⟨k', a', b', x', v'⟩ := p
  unfold opV
  rw [show (10000 : Nat) = 9999 + 1 from rfl, run_equalIn_agg w 9999 28 _ _ hS opHeld]
  simp only [Program.fieldsOf, Tryz.underlying28]
  go_simp
  by_cases h1 : k = k'
  · by_cases h2 : a = a'
    · by_cases h3 : b = b'
      · by_cases h4 : x = x'
        · by_cases h5 : v = v'
          · simp [h1, h2, h3, h4, h5]
          · simp [h1, h2, h3, h4, h5, bytes_ne h5]
        · simp [h1, h2, h3, h4, bytes_ne h4]
      · simp [h1, h2, h3]
    · simp [h1, h2]
  · simp [h1]
theorem op_neq (o p : OpD) (r : Bool) (hr : decide (o = p) = r) : ∀ w, (binOp .neq 28 (opV o) (opV p)).run Tryz.prog w = .ok (.bool (!r)) w := by
  intro w
  subst hr
  have h := op_equal o p w
  unfold opV at h ⊢
  rw [run_neq_struct, h]
  rfl
theorem op_eql (o p : OpD) (r : Bool) (hr : decide (o = p) = r) : ∀ w, (binOp .eql 28 (opV o) (opV p)).run Tryz.prog w = .ok (.bool r) w := by
  intro w
  subst hr
  have h := op_equal o p w
  unfold opV at h ⊢
  rw [run_eql_struct, h]
  rfl
end Go.Proofs.YtlmbcclggaflaaaGreatDoor
namespace Go.Proofs.YtlmbcclggaflaaaGreatDoor
open Go Go.RowKit

theorem text_put (x v : ByteArray) (T : ByteArray) (hT : T.data.toList = (textV v.data.toList).1) (a b : Int) : (⟨#[112, 117, 116]⟩ : ByteArray) ++ (((⟨#[32]⟩ ++ x) ++ ⟨#[32]⟩) ++ T) = pack (opT ⟨1, a, b, x, v⟩) := by
  rw [good1_text rfl]
  apply ByteArray.ext
  apply Array.ext'
  simp [pack, wordL, hT]
theorem text_key (k : Int) (hk : k = 2 ∨ k = 3) (W x v : ByteArray) (hW : W.data.toList = wordL k) (a b : Int) : W ++ (⟨#[32]⟩ ++ x) = pack (opT ⟨k, a, b, x, v⟩) := by
  rw [good2_text (o := ⟨k, a, b, x, v⟩) hk]
  apply ByteArray.ext
  apply Array.ext'
  simp [pack, hW]
theorem func_ne (d f : Nat) (w : World) : (Op.equalIn (d + 1) 87 (.func (.func f) #[] #[]) .nilFunc).run Tryz.prog w = .ok false w := by
  simp [Op.equalIn, run_underlying Tryz.underlying87]
theorem nil_eq (d : Nat) (w : World) : (Op.equalIn (d + 1) 87 .nilFunc .nilFunc).run Tryz.prog w = .ok true w := by
  simp [Op.equalIn, run_underlying Tryz.underlying87]
theorem func_some (f : Nat) : ∀ w, (binOp .neq 87 (.func (.func f) #[] #[]) .nilFunc).run Tryz.prog w = .ok (.bool true) w := by
  intro w
  have h := func_ne 9999 f w
  simp only [binOp]
  simp [Op.equal, Op.maxDepth, h]
theorem func_nil : ∀ w, (binOp .neq 87 .nilFunc .nilFunc).run Tryz.prog w = .ok (.bool false) w := by
  intro w
  have h := nil_eq 9999 w
  simp only [binOp]
  simp [Op.equal, Op.maxDepth, h]
theorem op_self (o p : OpD) (h : decide (o = p) = true) : o = p := of_decide_eq_true h
set_option maxRecDepth 100000 in
set_option maxHeartbeats 2000000 in
theorem print_put (a b : Int) (x v : ByteArray) (hx : x.size ≤ 100000) (w : World) :
    Calls Tryz.prog 15 #[opA 1 a b x v] w fun e w' => e = .returned (.tuple #[.string (prT ⟨1, a, b, x, v⟩), .int .i64 (prE ⟨1, a, b, x, v⟩)]) ∧ Below w.heap.size w w' := by
  have HX := Lib.hid hx
  clear hx
  obtain ⟨y, hy⟩ : ∃ y, (keyV x.data.toList == 0) = y := ⟨_, rfl⟩
  obtain ⟨T, hT⟩ : ∃ T, (⟨(textV v.data.toList).1.toArray⟩ : ByteArray) = T := ⟨_, rfl⟩
  obtain ⟨te, hte⟩ : ∃ te, ((textV v.data.toList).2 == 0) = te := ⟨_, rfl⟩
  have HY := Lib.hid hy
  have HT := Lib.hid hT
  have HTE := Lib.hid hte
  clear hy hT hte
  obtain ⟨r, hr⟩ : ∃ r, decide ((⟨1, 0, 0, x, v⟩ : OpD) = ⟨1, a, b, x, v⟩) = r := ⟨_, rfl⟩
  have hne : ∀ w, (binOp .neq 28 (opA 1 0 0 x v) (opA 1 a b x v)).run Tryz.prog w = .ok (.bool (!r)) w := op_neq ⟨1, 0, 0, x, v⟩ ⟨1, a, b, x, v⟩ r hr
  have HR := Lib.hid hr
  clear hr
  obtain ⟨P, hP⟩ : ∃ P, (((⟨#[32]⟩ : ByteArray) ++ x) ++ ⟨#[32]⟩) ++ T = P := ⟨_, rfl⟩
  have HP := Lib.hid hP
  have hPs : P.size ≤ 200000 := by
    have h1 := textV_short v
    have h2 := HX.out
    rw [HT.out] at h1
    rw [← hP]
    simp only [ByteArray.size_append]
    have e1 : (⟨#[32]⟩ : ByteArray).size = 1 := rfl
    omega
  have q1 : ¬ 9223372036854775807 < 3 + P.size := by omega
  clear hP hPs
  go_enter Tryz.func15, Tryz.ntmps15
  go_wp2_with fail
  have c0 : Below w.heap.size w (w.alloc (.cells #[.int .i64 1, .int .i64 a, .int .i64 b, .string x, .string v] 28)) := (Below.refl _ _).alloc (Nat.le_refl _) _
  have H0 := Lib.hid (OpBox.new w 1 a b x v 28)
  generalize (w.alloc (.cells #[.int .i64 1, .int .i64 a, .int .i64 b, .string x, .string v] 28)) = w0 at *
  refine (of_put _).mono ?_
  rintro e w1 ⟨rfl, b1⟩
  have H1 := Lib.hid (H0.out.below b1)
  have c1 := c0.trans (b1.mono c0.size)
  obtain ⟨⟨p0, p1, p2, p3, p4⟩, pf⟩ := H1.out
  clear b1 c0 H0 p1 p2 p3 p4 pf
  have aS : Below w1.heap.size w1 (w1.alloc (.cells #[.string ⟨#[112, 117, 116]⟩, .func (.func 94) #[] #[], .func (.func 95) #[] #[]] 90)) := (Below.refl _ _).alloc (Nat.le_refl _) _
  have s0 : (w1.alloc (.cells #[.string ⟨#[112, 117, 116]⟩, .func (.func 94) #[] #[], .func (.func 95) #[] #[]] 90)).cell? ⟨w1.heap.size, 0, none⟩ = some (.string ⟨#[112, 117, 116]⟩) := new_cell (w := w1) #[.string ⟨#[112, 117, 116]⟩, .func (.func 94) #[] #[], .func (.func 95) #[] #[]] 90 0 _ rfl
  have s1 : (w1.alloc (.cells #[.string ⟨#[112, 117, 116]⟩, .func (.func 94) #[] #[], .func (.func 95) #[] #[]] 90)).cell? ⟨w1.heap.size, 1, none⟩ = some (.func (.func 94) #[] #[]) := new_cell (w := w1) #[.string ⟨#[112, 117, 116]⟩, .func (.func 94) #[] #[], .func (.func 95) #[] #[]] 90 1 _ rfl
  have hS : w.heap.size < w1.heap.size := H1.out.lt
  have hS2 : w1.heap.size < (w1.alloc (.cells #[.string ⟨#[112, 117, 116]⟩, .func (.func 94) #[] #[], .func (.func 95) #[] #[]] 90)).heap.size := by simp
  go_wp2_with fail
  generalize (w1.alloc (.cells #[.string ⟨#[112, 117, 116]⟩, .func (.func 94) #[] #[], .func (.func 95) #[] #[]] 90)) = w2 at *
  obtain ⟨S, hSe⟩ : ∃ S, w1.heap.size = S := ⟨_, rfl⟩
  rw [hSe] at s0 s1 hS hS2
  have H2 := Lib.hid (H1.out.below aS)
  have p0' := cell_kept p0 aS
  have c2 := c1.trans (aS.mono c1.size)
  rw [hSe]
  clear hSe p0 c1 aS H1
  have q0 : (w2.alloc (.cells #[.int .i64 0, .int .i64 0, .int .i64 0, .string ⟨#[]⟩, .string ⟨#[]⟩] 28)).cell? ⟨w.heap.size, 0, none⟩ = some (.int .i64 1) := cell_old p0'
  go_region
  have aU := (Below.refl w2.heap.size w2).alloc (Nat.le_refl _) (.cells #[.int .i64 1, .int .i64 0, .int .i64 0, .string ⟨#[]⟩, .string ⟨#[]⟩] 28)
  have HU : Hid (OpBox (w2.alloc (.cells #[.int .i64 1, .int .i64 0, .int .i64 0, .string ⟨#[]⟩, .string ⟨#[]⟩] 28)).drew w2.heap.size 1 0 0 ⟨#[]⟩ ⟨#[]⟩) := Lib.hid (OpBox.new w2 1 0 0 ⟨#[]⟩ ⟨#[]⟩ 28).drew
  have H3 : Hid (OpBox (w2.alloc (.cells #[.int .i64 1, .int .i64 0, .int .i64 0, .string ⟨#[]⟩, .string ⟨#[]⟩] 28)).drew w.heap.size 1 a b x v) := Lib.hid (H2.out.below aU).drew
  have t0 : (w2.alloc (.cells #[.int .i64 1, .int .i64 0, .int .i64 0, .string ⟨#[]⟩, .string ⟨#[]⟩] 28)).drew.cell? ⟨S, 0, none⟩ = some (.string ⟨#[112, 117, 116]⟩) := cell_kept s0 aU.drew
  have t1 : (w2.alloc (.cells #[.int .i64 1, .int .i64 0, .int .i64 0, .string ⟨#[]⟩, .string ⟨#[]⟩] 28)).drew.cell? ⟨S, 1, none⟩ = some (.func (.func 94) #[] #[]) := cell_kept s1 aU.drew
  have c3 : Below w.heap.size w (w2.alloc (.cells #[.int .i64 1, .int .i64 0, .int .i64 0, .string ⟨#[]⟩, .string ⟨#[]⟩] 28)).drew := (c2.trans (aU.mono c2.size)).drew
  obtain ⟨U, hU⟩ : ∃ U, w2.heap.size = U := ⟨_, rfl⟩
  rw [hU] at HU hS2
  rw [hU]
  have hWU : w.heap.size < U := by omega
  have HWU := Lib.hid hWU
  have HSU := Lib.hid hS2
  generalize (w2.alloc (.cells #[.int .i64 1, .int .i64 0, .int .i64 0, .string ⟨#[]⟩, .string ⟨#[]⟩] 28)).drew = w3 at *
  clear aU q0 p0' s0 s1 c2 H2 hS hU hWU hS2
  obtain ⟨⟨p0, p1, p2, p3, p4⟩, pf⟩ := H3.out
  clear pf
  have hfn := func_some 94
  go_wp2_with fail
  refine (writePut_at 1 a b x v HX.out y HY.out _).mono ?_
  rw [HT.out, HTE.out, HP.out]
  rintro e w4 ⟨rfl, b1⟩
  have H4 := Lib.hid (H3.out.below b1)
  have HU4 := Lib.hid (HU.out.below b1)
  have s0 := cell_kept t0 b1
  have c4 := c3.trans (b1.mono c3.size)
  obtain ⟨⟨u0, u1, u2, u3, u4⟩, uf⟩ := HU4.out
  have uf0 := uf 0
  have uf1 := uf 1
  have uf2 := uf 2
  have uf3 := uf 3
  have uf4 := uf 4
  clear uf b1 t0 t1 c3 H3 HU p0 p1 p2 p3 p4
  have HV := Lib.hid (set5_at HU4.out 1 0 0 x v)
  have c5 := set5_below c4 (Nat.le_of_lt HWU.out) (.int .i64 1) (.int .i64 0) (.int .i64 0) (.string x) (.string v)
  have r0 := set5_off s0 (Nat.ne_of_lt HSU.out) (.int .i64 1) (.int .i64 0) (.int .i64 0) (.string x) (.string v)
  obtain ⟨⟨g0, g1, g2, g3, g4⟩, gf⟩ := H4.out
  have h0 := set5_off g0 (Nat.ne_of_lt HWU.out) (.int .i64 1) (.int .i64 0) (.int .i64 0) (.string x) (.string v)
  have h1 := set5_off g1 (Nat.ne_of_lt HWU.out) (.int .i64 1) (.int .i64 0) (.int .i64 0) (.string x) (.string v)
  have h2 := set5_off g2 (Nat.ne_of_lt HWU.out) (.int .i64 1) (.int .i64 0) (.int .i64 0) (.string x) (.string v)
  have h3 := set5_off g3 (Nat.ne_of_lt HWU.out) (.int .i64 1) (.int .i64 0) (.int .i64 0) (.string x) (.string v)
  have h4 := set5_off g4 (Nat.ne_of_lt HWU.out) (.int .i64 1) (.int .i64 0) (.int .i64 0) (.string x) (.string v)
  obtain ⟨⟨v0, v1, v2, v3, v4⟩, vf⟩ := HV.out
  clear g0 g1 g2 g3 g4 gf vf c4
  have HG : Hid (opGood ⟨1, a, b, x, v⟩ ↔ (y = true ∧ te = true ∧ r = true)) := by
    show _ ↔ _
    rw [good1 rfl, ← HY.out, ← HTE.out, ← HR.out, beq_iff_eq, beq_iff_eq, decide_eq_true_iff]
    have e1 : (textV v.data.toList).2 = 0 ↔ v.size ≤ 512 := by
      rw [← str_len]
      unfold textV
      constructor
      · intro h
        by_cases h2 : 512 < v.data.toList.length
        · rw [if_pos h2] at h
          cases h
        · omega
      · intro h
        rw [if_neg (by omega)]
        split <;> rfl
    rw [e1]
    constructor
    · rintro ⟨h1, h2, h3, h4⟩
      have e2 : a = 0 := h1
      have e3 : b = 0 := h2
      exact ⟨h3, h4, by rw [e2, e3]⟩
    · rintro ⟨h1, h2, h3⟩
      injection h3 with _ h4 h5
      exact ⟨h4.symm, h5.symm, h1, h2⟩
  have HT2 : Hid (T.data.toList = (textV v.data.toList).1) := by
    show _ = _
    rw [← HT.out]
  clear HY HTE HR HT
  cases y with
  | false =>
    have HB : Hid (prT ⟨1, a, b, x, v⟩ = ⟨#[]⟩ ∧ prE ⟨1, a, b, x, v⟩ = 2) := pr_bad fun h => by cases (HG.out.1 h).1
    go_wp2_with fail
    go_ret2
    exact ⟨by rw [HB.out.1, HB.out.2]; rfl, c5⟩
  | true =>
    cases te with
    | false =>
      have HB : Hid (prT ⟨1, a, b, x, v⟩ = ⟨#[]⟩ ∧ prE ⟨1, a, b, x, v⟩ = 2) := pr_bad fun h => by cases (HG.out.1 h).2.1
      go_wp2_with fail
      go_ret2
      exact ⟨by rw [HB.out.1, HB.out.2]; rfl, c5⟩
    | true =>
      cases r with
      | false =>
        have HB : Hid (prT ⟨1, a, b, x, v⟩ = ⟨#[]⟩ ∧ prE ⟨1, a, b, x, v⟩ = 2) := pr_bad fun h => by cases (HG.out.1 h).2.2
        go_wp2_with fail
        go_ret2
        exact ⟨by rw [HB.out.1, HB.out.2]; rfl, c5⟩
      | true =>
        have HB : Hid (prT ⟨1, a, b, x, v⟩ = ⟨#[112, 117, 116]⟩ ++ P ∧ prE ⟨1, a, b, x, v⟩ = 0) := by
          obtain ⟨h1, h2⟩ := pr_good (HG.out.2 ⟨rfl, rfl, rfl⟩)
          refine ⟨?_, h2⟩
          rw [h1, ← HP.out]
          exact (text_put x v T HT2.out a b).symm
        go_wp2_with fail
        go_ret2
        exact ⟨by rw [HB.out.1, HB.out.2]; rfl, c5⟩
set_option maxRecDepth 100000 in
set_option maxHeartbeats 2000000 in
theorem print_get (a b : Int) (x v : ByteArray) (hx : x.size ≤ 100000) (w : World) :
    Calls Tryz.prog 15 #[opA 2 a b x v] w fun e w' => e = .returned (.tuple #[.string (prT ⟨2, a, b, x, v⟩), .int .i64 (prE ⟨2, a, b, x, v⟩)]) ∧ Below w.heap.size w w' := by
  have HX := Lib.hid hx
  clear hx
  obtain ⟨y, hy⟩ : ∃ y, (keyV x.data.toList == 0) = y := ⟨_, rfl⟩
  have HY := Lib.hid hy
  clear hy
  obtain ⟨r, hr⟩ : ∃ r, decide ((⟨2, 0, 0, x, eB⟩ : OpD) = ⟨2, a, b, x, v⟩) = r := ⟨_, rfl⟩
  have hne : ∀ w, (binOp .neq 28 (opA 2 0 0 x ⟨#[]⟩) (opA 2 a b x v)).run Tryz.prog w = .ok (.bool (!r)) w := op_neq ⟨2, 0, 0, x, eB⟩ ⟨2, a, b, x, v⟩ r hr
  have HR := Lib.hid hr
  clear hr
  obtain ⟨P, hP⟩ : ∃ P, (⟨#[32]⟩ : ByteArray) ++ x = P := ⟨_, rfl⟩
  have HP := Lib.hid hP
  have hPs : P.size ≤ 200000 := by
    have h2 := HX.out
    rw [← hP]
    simp only [ByteArray.size_append]
    have e1 : (⟨#[32]⟩ : ByteArray).size = 1 := rfl
    omega
  have q1 : ¬ 9223372036854775807 < 3 + P.size := by omega
  clear hP hPs
  have hfn := func_some 96
  go_enter Tryz.func15, Tryz.ntmps15
  go_wp2_with fail
  have c0 : Below w.heap.size w (w.alloc (.cells #[.int .i64 2, .int .i64 a, .int .i64 b, .string x, .string v] 28)) := (Below.refl _ _).alloc (Nat.le_refl _) _
  have H0 := Lib.hid (OpBox.new w 2 a b x v 28)
  generalize (w.alloc (.cells #[.int .i64 2, .int .i64 a, .int .i64 b, .string x, .string v] 28)) = w0 at *
  refine (of_get _).mono ?_
  rintro e w1 ⟨rfl, b1⟩
  have H1 := Lib.hid (H0.out.below b1)
  have c1 := c0.trans (b1.mono c0.size)
  obtain ⟨⟨p0, p1, p2, p3, p4⟩, pf⟩ := H1.out
  clear b1 c0 H0 p1 p2 p3 p4 pf
  have aS : Below w1.heap.size w1 (w1.alloc (.cells #[.string ⟨#[103, 101, 116]⟩, .func (.func 96) #[] #[], .func (.func 97) #[] #[]] 90)) := (Below.refl _ _).alloc (Nat.le_refl _) _
  have s0 : (w1.alloc (.cells #[.string ⟨#[103, 101, 116]⟩, .func (.func 96) #[] #[], .func (.func 97) #[] #[]] 90)).cell? ⟨w1.heap.size, 0, none⟩ = some (.string ⟨#[103, 101, 116]⟩) := new_cell (w := w1) #[.string ⟨#[103, 101, 116]⟩, .func (.func 96) #[] #[], .func (.func 97) #[] #[]] 90 0 _ rfl
  have s1 : (w1.alloc (.cells #[.string ⟨#[103, 101, 116]⟩, .func (.func 96) #[] #[], .func (.func 97) #[] #[]] 90)).cell? ⟨w1.heap.size, 1, none⟩ = some (.func (.func 96) #[] #[]) := new_cell (w := w1) #[.string ⟨#[103, 101, 116]⟩, .func (.func 96) #[] #[], .func (.func 97) #[] #[]] 90 1 _ rfl
  have hS : w.heap.size < w1.heap.size := H1.out.lt
  have hS2 : w1.heap.size < (w1.alloc (.cells #[.string ⟨#[103, 101, 116]⟩, .func (.func 96) #[] #[], .func (.func 97) #[] #[]] 90)).heap.size := by simp
  go_wp2_with fail
  generalize (w1.alloc (.cells #[.string ⟨#[103, 101, 116]⟩, .func (.func 96) #[] #[], .func (.func 97) #[] #[]] 90)) = w2 at *
  obtain ⟨S, hSe⟩ : ∃ S, w1.heap.size = S := ⟨_, rfl⟩
  rw [hSe] at s0 s1 hS hS2
  have H2 := Lib.hid (H1.out.below aS)
  have p0' := cell_kept p0 aS
  have c2 := c1.trans (aS.mono c1.size)
  rw [hSe]
  clear hSe p0 c1 aS H1
  have q0 : (w2.alloc (.cells #[.int .i64 0, .int .i64 0, .int .i64 0, .string ⟨#[]⟩, .string ⟨#[]⟩] 28)).cell? ⟨w.heap.size, 0, none⟩ = some (.int .i64 2) := cell_old p0'
  go_region
  have aU := (Below.refl w2.heap.size w2).alloc (Nat.le_refl _) (.cells #[.int .i64 2, .int .i64 0, .int .i64 0, .string ⟨#[]⟩, .string ⟨#[]⟩] 28)
  have HU : Hid (OpBox (w2.alloc (.cells #[.int .i64 2, .int .i64 0, .int .i64 0, .string ⟨#[]⟩, .string ⟨#[]⟩] 28)).drew w2.heap.size 2 0 0 ⟨#[]⟩ ⟨#[]⟩) := Lib.hid (OpBox.new w2 2 0 0 ⟨#[]⟩ ⟨#[]⟩ 28).drew
  have H3 : Hid (OpBox (w2.alloc (.cells #[.int .i64 2, .int .i64 0, .int .i64 0, .string ⟨#[]⟩, .string ⟨#[]⟩] 28)).drew w.heap.size 2 a b x v) := Lib.hid (H2.out.below aU).drew
  have t0 : (w2.alloc (.cells #[.int .i64 2, .int .i64 0, .int .i64 0, .string ⟨#[]⟩, .string ⟨#[]⟩] 28)).drew.cell? ⟨S, 0, none⟩ = some (.string ⟨#[103, 101, 116]⟩) := cell_kept s0 aU.drew
  have t1 : (w2.alloc (.cells #[.int .i64 2, .int .i64 0, .int .i64 0, .string ⟨#[]⟩, .string ⟨#[]⟩] 28)).drew.cell? ⟨S, 1, none⟩ = some (.func (.func 96) #[] #[]) := cell_kept s1 aU.drew
  have c3 : Below w.heap.size w (w2.alloc (.cells #[.int .i64 2, .int .i64 0, .int .i64 0, .string ⟨#[]⟩, .string ⟨#[]⟩] 28)).drew := (c2.trans (aU.mono c2.size)).drew
  obtain ⟨U, hU⟩ : ∃ U, w2.heap.size = U := ⟨_, rfl⟩
  rw [hU] at HU hS2
  rw [hU]
  have hWU : w.heap.size < U := by omega
  have HWU := Lib.hid hWU
  have HSU := Lib.hid hS2
  generalize (w2.alloc (.cells #[.int .i64 2, .int .i64 0, .int .i64 0, .string ⟨#[]⟩, .string ⟨#[]⟩] 28)).drew = w3 at *
  clear aU q0 p0' s0 s1 c2 H2 hS hU hWU hS2
  obtain ⟨⟨p0, p1, p2, p3, p4⟩, pf⟩ := H3.out
  clear pf
  go_wp2_with fail
  refine (writeKey_any 2 a b x v HX.out _).mono ?_
  rw [HY.out, HP.out]
  rintro e w4 ⟨rfl, b1⟩
  have H4 := Lib.hid (H3.out.below b1)
  have HU4 := Lib.hid (HU.out.below b1)
  have s0 := cell_kept t0 b1
  have c4 := c3.trans (b1.mono c3.size)
  obtain ⟨⟨u0, u1, u2, u3, u4⟩, uf⟩ := HU4.out
  have uf0 := uf 0
  have uf1 := uf 1
  have uf2 := uf 2
  have uf3 := uf 3
  have uf4 := uf 4
  clear uf b1 t0 t1 c3 H3 HU p0 p1 p2 p3 p4
  have HV := Lib.hid (set5_at HU4.out 2 0 0 x ⟨#[]⟩)
  have c5 := set5_below c4 (Nat.le_of_lt HWU.out) (.int .i64 2) (.int .i64 0) (.int .i64 0) (.string x) (.string ⟨#[]⟩)
  have r0 := set5_off s0 (Nat.ne_of_lt HSU.out) (.int .i64 2) (.int .i64 0) (.int .i64 0) (.string x) (.string ⟨#[]⟩)
  obtain ⟨⟨g0, g1, g2, g3, g4⟩, gf⟩ := H4.out
  have h0 := set5_off g0 (Nat.ne_of_lt HWU.out) (.int .i64 2) (.int .i64 0) (.int .i64 0) (.string x) (.string ⟨#[]⟩)
  have h1 := set5_off g1 (Nat.ne_of_lt HWU.out) (.int .i64 2) (.int .i64 0) (.int .i64 0) (.string x) (.string ⟨#[]⟩)
  have h2 := set5_off g2 (Nat.ne_of_lt HWU.out) (.int .i64 2) (.int .i64 0) (.int .i64 0) (.string x) (.string ⟨#[]⟩)
  have h3 := set5_off g3 (Nat.ne_of_lt HWU.out) (.int .i64 2) (.int .i64 0) (.int .i64 0) (.string x) (.string ⟨#[]⟩)
  have h4 := set5_off g4 (Nat.ne_of_lt HWU.out) (.int .i64 2) (.int .i64 0) (.int .i64 0) (.string x) (.string ⟨#[]⟩)
  obtain ⟨⟨v0, v1, v2, v3, v4⟩, vf⟩ := HV.out
  clear g0 g1 g2 g3 g4 gf vf c4
  have HG : Hid (opGood ⟨2, a, b, x, v⟩ ↔ (y = true ∧ r = true)) := by
    show _ ↔ _
    rw [good2 (o := ⟨2, a, b, x, v⟩) (by show (2 : Int) = 2 ∨ (2 : Int) = 3; decide), ← HY.out, ← HR.out, beq_iff_eq, decide_eq_true_iff]
    constructor
    · rintro ⟨h1, h2, h3, h4⟩
      have e2 : a = 0 := h1
      have e3 : b = 0 := h2
      have e4 : v = eB := h4
      exact ⟨h3, by rw [e2, e3, e4]⟩
    · rintro ⟨h1, h3⟩
      injection h3 with _ h4 h5 _ h6
      exact ⟨h4.symm, h5.symm, h1, h6.symm⟩
  clear HY HR
  cases y with
  | false =>
    have HB : Hid (prT ⟨2, a, b, x, v⟩ = ⟨#[]⟩ ∧ prE ⟨2, a, b, x, v⟩ = 2) := pr_bad fun h => by cases (HG.out.1 h).1
    go_wp2_with fail
    go_ret2
    exact ⟨by rw [HB.out.1, HB.out.2]; rfl, c5⟩
  | true =>
    cases r with
    | false =>
      have HB : Hid (prT ⟨2, a, b, x, v⟩ = ⟨#[]⟩ ∧ prE ⟨2, a, b, x, v⟩ = 2) := pr_bad fun h => by cases (HG.out.1 h).2
      go_wp2_with fail
      go_ret2
      exact ⟨by rw [HB.out.1, HB.out.2]; rfl, c5⟩
    | true =>
      have HB : Hid (prT ⟨2, a, b, x, v⟩ = ⟨#[103, 101, 116]⟩ ++ P ∧ prE ⟨2, a, b, x, v⟩ = 0) := by
        obtain ⟨h1, h2⟩ := pr_good (HG.out.2 ⟨rfl, rfl⟩)
        refine ⟨?_, h2⟩
        rw [h1, ← HP.out]
        exact (text_key 2 (by decide) _ x v rfl a b).symm
      go_wp2_with fail
      go_ret2
      exact ⟨by rw [HB.out.1, HB.out.2]; rfl, c5⟩
set_option maxRecDepth 100000 in
set_option maxHeartbeats 2000000 in
theorem print_delete (a b : Int) (x v : ByteArray) (hx : x.size ≤ 100000) (w : World) :
    Calls Tryz.prog 15 #[opA 3 a b x v] w fun e w' => e = .returned (.tuple #[.string (prT ⟨3, a, b, x, v⟩), .int .i64 (prE ⟨3, a, b, x, v⟩)]) ∧ Below w.heap.size w w' := by
  have HX := Lib.hid hx
  clear hx
  obtain ⟨y, hy⟩ : ∃ y, (keyV x.data.toList == 0) = y := ⟨_, rfl⟩
  have HY := Lib.hid hy
  clear hy
  obtain ⟨r, hr⟩ : ∃ r, decide ((⟨3, 0, 0, x, eB⟩ : OpD) = ⟨3, a, b, x, v⟩) = r := ⟨_, rfl⟩
  have hne : ∀ w, (binOp .neq 28 (opA 3 0 0 x ⟨#[]⟩) (opA 3 a b x v)).run Tryz.prog w = .ok (.bool (!r)) w := op_neq ⟨3, 0, 0, x, eB⟩ ⟨3, a, b, x, v⟩ r hr
  have HR := Lib.hid hr
  clear hr
  obtain ⟨P, hP⟩ : ∃ P, (⟨#[32]⟩ : ByteArray) ++ x = P := ⟨_, rfl⟩
  have HP := Lib.hid hP
  have hPs : P.size ≤ 200000 := by
    have h2 := HX.out
    rw [← hP]
    simp only [ByteArray.size_append]
    have e1 : (⟨#[32]⟩ : ByteArray).size = 1 := rfl
    omega
  have q1 : ¬ 9223372036854775807 < 6 + P.size := by omega
  clear hP hPs
  have hfn := func_some 96
  go_enter Tryz.func15, Tryz.ntmps15
  go_wp2_with fail
  have c0 : Below w.heap.size w (w.alloc (.cells #[.int .i64 3, .int .i64 a, .int .i64 b, .string x, .string v] 28)) := (Below.refl _ _).alloc (Nat.le_refl _) _
  have H0 := Lib.hid (OpBox.new w 3 a b x v 28)
  generalize (w.alloc (.cells #[.int .i64 3, .int .i64 a, .int .i64 b, .string x, .string v] 28)) = w0 at *
  refine (of_delete _).mono ?_
  rintro e w1 ⟨rfl, b1⟩
  have H1 := Lib.hid (H0.out.below b1)
  have c1 := c0.trans (b1.mono c0.size)
  obtain ⟨⟨p0, p1, p2, p3, p4⟩, pf⟩ := H1.out
  clear b1 c0 H0 p1 p2 p3 p4 pf
  have aS : Below w1.heap.size w1 (w1.alloc (.cells #[.string ⟨#[100, 101, 108, 101, 116, 101]⟩, .func (.func 96) #[] #[], .func (.func 97) #[] #[]] 90)) := (Below.refl _ _).alloc (Nat.le_refl _) _
  have s0 : (w1.alloc (.cells #[.string ⟨#[100, 101, 108, 101, 116, 101]⟩, .func (.func 96) #[] #[], .func (.func 97) #[] #[]] 90)).cell? ⟨w1.heap.size, 0, none⟩ = some (.string ⟨#[100, 101, 108, 101, 116, 101]⟩) := new_cell (w := w1) #[.string ⟨#[100, 101, 108, 101, 116, 101]⟩, .func (.func 96) #[] #[], .func (.func 97) #[] #[]] 90 0 _ rfl
  have s1 : (w1.alloc (.cells #[.string ⟨#[100, 101, 108, 101, 116, 101]⟩, .func (.func 96) #[] #[], .func (.func 97) #[] #[]] 90)).cell? ⟨w1.heap.size, 1, none⟩ = some (.func (.func 96) #[] #[]) := new_cell (w := w1) #[.string ⟨#[100, 101, 108, 101, 116, 101]⟩, .func (.func 96) #[] #[], .func (.func 97) #[] #[]] 90 1 _ rfl
  have hS : w.heap.size < w1.heap.size := H1.out.lt
  have hS2 : w1.heap.size < (w1.alloc (.cells #[.string ⟨#[100, 101, 108, 101, 116, 101]⟩, .func (.func 96) #[] #[], .func (.func 97) #[] #[]] 90)).heap.size := by simp
  go_wp2_with fail
  generalize (w1.alloc (.cells #[.string ⟨#[100, 101, 108, 101, 116, 101]⟩, .func (.func 96) #[] #[], .func (.func 97) #[] #[]] 90)) = w2 at *
  obtain ⟨S, hSe⟩ : ∃ S, w1.heap.size = S := ⟨_, rfl⟩
  rw [hSe] at s0 s1 hS hS2
  have H2 := Lib.hid (H1.out.below aS)
  have p0' := cell_kept p0 aS
  have c2 := c1.trans (aS.mono c1.size)
  rw [hSe]
  clear hSe p0 c1 aS H1
  have q0 : (w2.alloc (.cells #[.int .i64 0, .int .i64 0, .int .i64 0, .string ⟨#[]⟩, .string ⟨#[]⟩] 28)).cell? ⟨w.heap.size, 0, none⟩ = some (.int .i64 3) := cell_old p0'
  go_region
  have aU := (Below.refl w2.heap.size w2).alloc (Nat.le_refl _) (.cells #[.int .i64 3, .int .i64 0, .int .i64 0, .string ⟨#[]⟩, .string ⟨#[]⟩] 28)
  have HU : Hid (OpBox (w2.alloc (.cells #[.int .i64 3, .int .i64 0, .int .i64 0, .string ⟨#[]⟩, .string ⟨#[]⟩] 28)).drew w2.heap.size 3 0 0 ⟨#[]⟩ ⟨#[]⟩) := Lib.hid (OpBox.new w2 3 0 0 ⟨#[]⟩ ⟨#[]⟩ 28).drew
  have H3 : Hid (OpBox (w2.alloc (.cells #[.int .i64 3, .int .i64 0, .int .i64 0, .string ⟨#[]⟩, .string ⟨#[]⟩] 28)).drew w.heap.size 3 a b x v) := Lib.hid (H2.out.below aU).drew
  have t0 : (w2.alloc (.cells #[.int .i64 3, .int .i64 0, .int .i64 0, .string ⟨#[]⟩, .string ⟨#[]⟩] 28)).drew.cell? ⟨S, 0, none⟩ = some (.string ⟨#[100, 101, 108, 101, 116, 101]⟩) := cell_kept s0 aU.drew
  have t1 : (w2.alloc (.cells #[.int .i64 3, .int .i64 0, .int .i64 0, .string ⟨#[]⟩, .string ⟨#[]⟩] 28)).drew.cell? ⟨S, 1, none⟩ = some (.func (.func 96) #[] #[]) := cell_kept s1 aU.drew
  have c3 : Below w.heap.size w (w2.alloc (.cells #[.int .i64 3, .int .i64 0, .int .i64 0, .string ⟨#[]⟩, .string ⟨#[]⟩] 28)).drew := (c2.trans (aU.mono c2.size)).drew
  obtain ⟨U, hU⟩ : ∃ U, w2.heap.size = U := ⟨_, rfl⟩
  rw [hU] at HU hS2
  rw [hU]
  have hWU : w.heap.size < U := by omega
  have HWU := Lib.hid hWU
  have HSU := Lib.hid hS2
  generalize (w2.alloc (.cells #[.int .i64 3, .int .i64 0, .int .i64 0, .string ⟨#[]⟩, .string ⟨#[]⟩] 28)).drew = w3 at *
  clear aU q0 p0' s0 s1 c2 H2 hS hU hWU hS2
  obtain ⟨⟨p0, p1, p2, p3, p4⟩, pf⟩ := H3.out
  clear pf
  go_wp2_with fail
  refine (writeKey_any 3 a b x v HX.out _).mono ?_
  rw [HY.out, HP.out]
  rintro e w4 ⟨rfl, b1⟩
  have H4 := Lib.hid (H3.out.below b1)
  have HU4 := Lib.hid (HU.out.below b1)
  have s0 := cell_kept t0 b1
  have c4 := c3.trans (b1.mono c3.size)
  obtain ⟨⟨u0, u1, u2, u3, u4⟩, uf⟩ := HU4.out
  have uf0 := uf 0
  have uf1 := uf 1
  have uf2 := uf 2
  have uf3 := uf 3
  have uf4 := uf 4
  clear uf b1 t0 t1 c3 H3 HU p0 p1 p2 p3 p4
  have HV := Lib.hid (set5_at HU4.out 3 0 0 x ⟨#[]⟩)
  have c5 := set5_below c4 (Nat.le_of_lt HWU.out) (.int .i64 3) (.int .i64 0) (.int .i64 0) (.string x) (.string ⟨#[]⟩)
  have r0 := set5_off s0 (Nat.ne_of_lt HSU.out) (.int .i64 3) (.int .i64 0) (.int .i64 0) (.string x) (.string ⟨#[]⟩)
  obtain ⟨⟨g0, g1, g2, g3, g4⟩, gf⟩ := H4.out
  have h0 := set5_off g0 (Nat.ne_of_lt HWU.out) (.int .i64 3) (.int .i64 0) (.int .i64 0) (.string x) (.string ⟨#[]⟩)
  have h1 := set5_off g1 (Nat.ne_of_lt HWU.out) (.int .i64 3) (.int .i64 0) (.int .i64 0) (.string x) (.string ⟨#[]⟩)
  have h2 := set5_off g2 (Nat.ne_of_lt HWU.out) (.int .i64 3) (.int .i64 0) (.int .i64 0) (.string x) (.string ⟨#[]⟩)
  have h3 := set5_off g3 (Nat.ne_of_lt HWU.out) (.int .i64 3) (.int .i64 0) (.int .i64 0) (.string x) (.string ⟨#[]⟩)
  have h4 := set5_off g4 (Nat.ne_of_lt HWU.out) (.int .i64 3) (.int .i64 0) (.int .i64 0) (.string x) (.string ⟨#[]⟩)
  obtain ⟨⟨v0, v1, v2, v3, v4⟩, vf⟩ := HV.out
  clear g0 g1 g2 g3 g4 gf vf c4
  have HG : Hid (opGood ⟨3, a, b, x, v⟩ ↔ (y = true ∧ r = true)) := by
    show _ ↔ _
    rw [good2 (o := ⟨3, a, b, x, v⟩) (by show (3 : Int) = 2 ∨ (3 : Int) = 3; decide), ← HY.out, ← HR.out, beq_iff_eq, decide_eq_true_iff]
    constructor
    · rintro ⟨h1, h2, h3, h4⟩
      have e2 : a = 0 := h1
      have e3 : b = 0 := h2
      have e4 : v = eB := h4
      exact ⟨h3, by rw [e2, e3, e4]⟩
    · rintro ⟨h1, h3⟩
      injection h3 with _ h4 h5 _ h6
      exact ⟨h4.symm, h5.symm, h1, h6.symm⟩
  clear HY HR
  cases y with
  | false =>
    have HB : Hid (prT ⟨3, a, b, x, v⟩ = ⟨#[]⟩ ∧ prE ⟨3, a, b, x, v⟩ = 2) := pr_bad fun h => by cases (HG.out.1 h).1
    go_wp2_with fail
    go_ret2
    exact ⟨by rw [HB.out.1, HB.out.2]; rfl, c5⟩
  | true =>
    cases r with
    | false =>
      have HB : Hid (prT ⟨3, a, b, x, v⟩ = ⟨#[]⟩ ∧ prE ⟨3, a, b, x, v⟩ = 2) := pr_bad fun h => by cases (HG.out.1 h).2
      go_wp2_with fail
      go_ret2
      exact ⟨by rw [HB.out.1, HB.out.2]; rfl, c5⟩
    | true =>
      have HB : Hid (prT ⟨3, a, b, x, v⟩ = ⟨#[100, 101, 108, 101, 116, 101]⟩ ++ P ∧ prE ⟨3, a, b, x, v⟩ = 0) := by
        obtain ⟨h1, h2⟩ := pr_good (HG.out.2 ⟨rfl, rfl⟩)
        refine ⟨?_, h2⟩
        rw [h1, ← HP.out]
        exact (text_key 3 (by decide) _ x v rfl a b).symm
      go_wp2_with fail
      go_ret2
      exact ⟨by rw [HB.out.1, HB.out.2]; rfl, c5⟩
end Go.Proofs.YtlmbcclggaflaaaGreatDoor
