/-
  strings.ContainsRune over a string of ASCII bytes: a rune beyond ASCII is not there.
  Conditions: the string has at least four bytes, all below 128, and fewer than 2^40.
-/
import Derived.Test.YthmbcjladgnigaaDoorProg
import Derived.Test.YthmbcjladgnigaaDoorPlain
import Derived.Test.YthmbcjladgnigaaDoorShelf
import Derived.WalkLawsBesides
import Derived.WalkSpells
import Derived.Deep.QuietTactic
import Derived.BigQuiet
import Derived.Outline
import Derived.Lib.Hide
import Derived.Laws.RangeAny
import Derived.Laws.Runes
set_option linter.unusedVariables false
namespace Go.Proofs.YthmbcjladgnigaaDoor
open Go Go.RowKit

theorem index_none {l : List UInt8} {c : UInt8} (h : ∀ b ∈ l, b ≠ c) : Lib.indexByte l c = -1 := by
  induction l with
  | nil => rfl
  | cons b r ih =>
    have h1 : (b == c) = false := by simpa using h b (by simp)
    have h2 := ih fun x hx => h x (by simp [hx])
    simp [Lib.indexByte, h1, h2]
def allAscii (l : List UInt8) : Prop := ∀ b ∈ l, b.toNat < 128
theorem iter_below (w : World) (s : ByteArray) (pos : Nat) : Below w.heap.size w (w.iter s pos) := (Below.refl _ _).alloc (Nat.le_refl _) _

set_option maxRecDepth 100000 in
set_option maxHeartbeats 8000000 in
theorem indexRune_err (s : ByteArray) (hs : allAscii s.data.toList) (hz : s.size ≤ 1099511627776) (w : World) :
    Calls Tryd.prog 43 #[.string s, .int .i32 65533] w fun e w' => e = .returned (.int .i64 (-1)) ∧ Below w.heap.size w w' := by
  have HS := Lib.hid hs; clear hs
  go_enter Tryd.func43, Tryd.ntmps43
  go_wp2_with fail
  go_loopw [5] (fun _ wr => ∃ pos : Nat, pos ≤ s.size ∧ wr = w.iter s pos) (fun _ wr => s.size - wr.iterPos w.heap.size)
  case atStart => exact ⟨0, Nat.zero_le _, rfl⟩
  case round =>
    obtain ⟨pos, hp, rfl⟩ := hrel
    by_cases hlt : pos < s.size
    · have ha : (s[pos]'hlt).toNat < 128 := HS.out _ (Array.getElem_mem_toList (xs := s.data) hlt)
      have hnx := fun ty => run_next_ascii (P := Tryd.prog) w s pos ty hlt ha
      have hne : (((s[pos]'hlt).toNat : Int) == 65533) = false := by rw [beq_eq_false_iff_ne]; omega
      generalize (s[pos]'hlt).toNat = x at *
      go_wp2_with fail
      go_roundw
      case rel => exact ⟨pos + 1, by omega, rfl⟩
      case measure => simp; omega
    · have hnx := fun ty => run_next_end (P := Tryd.prog) w s pos ty hlt
      go_wp2_with fail
      go_ret
      exact ⟨rfl, iter_below _ _ _⟩

set_option maxRecDepth 100000 in
set_option maxHeartbeats 8000000 in
theorem indexRune_bad (s : ByteArray) (r : Int) (h0 : 128 ≤ r) (d1 : (r == 65533) = false) (hv : Lib.validRune r = false) (w : World) :
    Calls Tryd.prog 43 #[.string s, .int .i32 r] w fun e w' => e = .returned (.int .i64 (-1)) ∧ Below w.heap.size w w' := by
  have HV := Lib.hid hv; clear hv
  go_enter Tryd.func43, Tryd.ntmps43
  go_wp2_with fail
  refine (Tryd.utf8_ValidRune r _).mono ?_
  rw [HV.out]
  rintro e w' ⟨rfl, rfl⟩
  go_wp2_with fail
  go_ret
  exact ⟨rfl, Below.refl _ _⟩

theorem ixb (s : ByteArray) (x : UInt8) (w : World) :
    Calls Tryd.prog 26 #[.string s, .int .u8 (x.toNat : Int)] w fun e w' => e = .returned (.int .i64 (Lib.indexByte s.data.toList x)) ∧ w' = w := by
  have h := Tryd.strings_IndexByte s (x.toNat : Int) w
  rw [show ((x.toNat : Int)).toNat.toUInt8 = x by simp] at h
  exact h
set_option maxRecDepth 100000 in
set_option maxHeartbeats 8000000 in
theorem indexRune_far (s : ByteArray) (r : Int) (h0 : 128 ≤ r) (d1 : (r == 65533) = false) (hv : Lib.validRune r = true) (hs : allAscii s.data.toList) (h4 : 4 ≤ s.size) (hz : s.size ≤ 1099511627776) (w : World) :
    Calls Tryd.prog 43 #[.string s, .int .i32 r] w fun e w' => e = .returned (.int .i64 (-1)) ∧ Below w.heap.size w w' := by
  have HV := Lib.hid hv
  have he := encode_facts r (by rw [validRune_eq]; exact hv) h0
  clear hv
  obtain ⟨E, hE⟩ : ∃ E, Utf8.encode r = E := ⟨_, rfl⟩
  rw [hE] at he
  obtain ⟨he2, he4, helast⟩ := he
  obtain ⟨n, hn⟩ : ∃ n, E.size = n + 1 := ⟨E.size - 1, by omega⟩
  obtain ⟨x, hx⟩ : ∃ x : UInt8, E.data.toList.getD n 0 = x := ⟨_, rfl⟩
  have hx128 : 128 ≤ x.toNat := by
    have h := helast (by omega)
    simp only [hn, Nat.add_sub_cancel] at h
    rw [← hx, str_getD E n (by omega)]; exact h
  obtain ⟨y, hy⟩ : ∃ y : UInt8, s.data.toList.getD n 0 = y := ⟨_, rfl⟩
  have hy128 : y.toNat < 128 := by
    have hlt : n < s.data.toList.length := by rw [str_len]; omega
    have e : s.data.toList.getD n 0 = s.data.toList[n] := by rw [List.getD, List.getElem?_eq_getElem hlt]; rfl
    rw [← hy, e]; exact hs _ (List.getElem_mem _)
  have i1 := run_str_at (P := Tryd.prog) E 9 Tryd.underlying9 .i64 (n : Int) n rfl (by omega) x hx.symm
  have i2 := run_str_at (P := Tryd.prog) s 9 Tryd.underlying9 .i64 (n : Int) n rfl (by omega) y hy.symm
  have hne : ((y.toNat : Int) != (x.toNat : Int)) = true := by rw [bne_iff_ne]; omega
  have HX : Hid (∀ e, Lib.indexByte (s.extract (n + 1) e).data.toList x = -1) := fun e => index_none fun b hb hbx => by
    have := hs b (mem_extract hb)
    rw [hbx] at this
    omega
  have hx256 : x.toNat < 256 := x.toNat_lt
  have hn3 : n ≤ 3 := by omega
  have d2 : decide (r < 128) = false := by rw [decide_eq_false_iff_not]; omega
  have d3 : decide ((n : Int) < (s.size : Int)) = true := by rw [decide_eq_true_iff]; omega
  clear he2 he4 helast hx hy hs
  have isl : ∀ wx, (Instr.slice 9 (.string s) (some (.int .i64 ((n : Int) + 1))) none none).run Tryd.prog wx = .ok (.string (s.extract (n + 1) s.size)) wx := fun wx => by
    rw [run_slice_string_l wx 9 s Tryd.underlying9 .i64 ((n : Int) + 1) (by omega) (by omega), show ((n : Int) + 1).toNat = n + 1 by omega]
  have HE := Lib.hid hE
  go_enter Tryd.func43, Tryd.ntmps43
  go_wp2_with fail
  refine (keeps (Tryd.utf8_ValidRune r _)).mono ?_
  rw [HV.out]
  rintro e w' ⟨rfl, rfl⟩
  go_wp2_with fail
  go_step3
  go_wp2_with fail
  go_loopw [9, 10] (fun vi vf wr => vi = .int .i64 n ∧ vf = .int .i64 0 ∧ wr = w) (fun _ _ _ => 0)
  case atStart => exact ⟨rfl, rfl, rfl⟩
  case round =>
    obtain ⟨rfl, rfl, rfl⟩ := hrel
    go_wp2_with fail
    go_step3
    go_wp2_with fail
    go_quiet (fail)
    have hb2 : Below wr.heap.size wr (wr.drewN nq) := ⟨rfl, rfl, rfl, Nat.le_refl _, fun _ _ => rfl⟩
    generalize wr.drewN nq = w2 at *
    go_wp2_with fail
    have hsum : IntKind.i64.wrap ((n : Int) + 1) = (n : Int) + 1 := IntWalk.i64_in _ (by omega)
    go_quiet ((go_at_call 26; exact Calls.quiet_of_same (ixb _ _ _)))
    clear hsum
    rw [HX.out]
    go_wp2_with fail
    have c2 : Below wr.heap.size wr (w2.drewN nq) := hb2.trans ⟨rfl, rfl, rfl, Nat.le_refl _, fun _ _ => rfl⟩
    rw [Exit.noGoto_ret]
    go_simp
    rename Exit → Act → World → Prop => Q2
    simp only [Q2]
    go_simp
    try rw [Exit.noGoto_ret]
    try go_simp
    go_ret
    exact ⟨rfl, c2⟩

theorem indexRune_high (s : ByteArray) (r : Int) (h0 : 128 ≤ r) (hs : allAscii s.data.toList) (h4 : 4 ≤ s.size) (hz : s.size ≤ 1099511627776) (w : World) :
    Calls Tryd.prog 43 #[.string s, .int .i32 r] w fun e w' => e = .returned (.int .i64 (-1)) ∧ Below w.heap.size w w' := by
  by_cases h : r = 65533
  · subst h; exact indexRune_err s hs hz w
  · have d1 : (r == 65533) = false := by rw [beq_eq_false_iff_ne]; exact h
    rcases hv : Lib.validRune r with _ | _
    · exact indexRune_bad s r h0 d1 hv w
    · exact indexRune_far s r h0 d1 hv hs h4 hz w
theorem containsRune_high (s : ByteArray) (r : Int) (h0 : 128 ≤ r) (hs : allAscii s.data.toList) (h4 : 4 ≤ s.size) (hz : s.size ≤ 1099511627776) (w : World) :
    Calls Tryd.prog 28 #[.string s, .int .i32 r] w fun e w' => e = .returned (.bool false) ∧ Below w.heap.size w w' := by
  have HS := Lib.hid hs; clear hs
  go_enter Tryd.func28, Tryd.ntmps28
  go_wp2_with fail
  refine (indexRune_high s r h0 HS.out h4 hz _).mono ?_
  rintro e w' ⟨rfl, b1⟩
  go_wp2_with fail
  go_ret
  exact ⟨rfl, b1⟩
end Go.Proofs.YthmbcjladgnigaaDoor
