/-
  What codec.Hex, nibble and ParseHex compute, on lists of bytes.
  Conditions: at most 2^45 bytes.
-/
import Derived.Test.YtmfdfpebbnagfaaDoorProg
import Derived.Test.YtmfdfpebbnagfaaDoorPlain
import Derived.WalkLawsBesides
import Derived.Deep.QuietTactic
import Derived.BigQuiet
import Derived.Deep.AppendLies
import Derived.Deep.RegionLaw
import Derived.BigRegion
import Derived.Laws.BitsLemmas
import Derived.Outline
import Derived.Lib.Hide
set_option linter.unusedVariables false
namespace Go.Proofs.YtmfdfpebbnagfaaDoor
open Go Go.RowKit

theorem infoU8 : (Tryd.prog.info? 5).map (fun i => (i.zero, i.size, i.bytes)) = some (some (.int .u8 0), 1, 1) := by kernel_rfl

/-- The sixteen digits, indexed. -/
theorem run_digit (k : IntKind) (n : Int) (h0 : 0 ≤ n) (h : n < 16) (wx : World) : (Instr.index 9 (.string ⟨#[48, 49, 50, 51, 52, 53, 54, 55, 56, 57, 97, 98, 99, 100, 101, 102]⟩) (.int k n)).run Tryd.prog wx = .ok (.int .u8 ((hexD n.toNat).toNat : Int)) wx := by
  have hc : n = 0 ∨ n = 1 ∨ n = 2 ∨ n = 3 ∨ n = 4 ∨ n = 5 ∨ n = 6 ∨ n = 7 ∨ n = 8 ∨ n = 9 ∨ n = 10 ∨ n = 11 ∨ n = 12 ∨ n = 13 ∨ n = 14 ∨ n = 15 := by omega
  rcases hc with rfl | rfl | rfl | rfl | rfl | rfl | rfl | rfl | rfl | rfl | rfl | rfl | rfl | rfl | rfl | rfl <;> rfl

set_option maxHeartbeats 1000000 in
theorem hex_any (v : Value) (l : List UInt8) (w : World) (hv : BytesAt w v l) (hl : l.length ≤ 35184372088832) :
    Calls Tryd.prog 22 #[v] w fun e w' => e = .returned (.string ⟨(hexL l).toArray⟩) ∧ Below w.heap.size w w' := by
  obtain ⟨i0, hi, hz0, hz1, hz2⟩ := info_parts infoU8
  obtain ⟨p, c, rfl, hc, hp⟩ := hv
  go_enter Tryd.func22, Tryd.ntmps22
  have hB : w.heap.size ≤ w.heap.size := Nat.le_refl _
  go_wp2_with (at_make; refine wpList_make_own _ rfl _ _ 22 rfl w.heap.size 5 i0 (.int .u8 0) 1 Tryd.underlying22 hi hz0 hz1 .i64 .i64 (2 * (l.length : Int)) (2 * l.length) rfl rfl ?c0 ?c1 ?c2 ?c3 ?_)
  case c0 => omega
  case c1 => rw [hz2]; omega
  case c2 => unfold maxLen; omega
  case c3 => exact Nat.le_refl _
  intro w1 hown hgrow
  have hb1 : Below w.heap.size w w1 := (Below.refl _ _).grown hgrow (Nat.le_refl _) (fun k hk => by cases hk)
  clear hgrow
  have hown' : Hid (w1.ownsRow w.heap.size 5 1 (.slice (some ⟨w.heap.size, 0, none⟩) 0 (2 * l.length)) 0 []) := hown
  clear hown
  go_wp2
  go_loopw [3, 12] (fun vo vi wr => ∃ k : Nat, k ≤ l.length ∧ vi = .int .i64 k ∧ Hid (wr.ownsRow w.heap.size 5 1 vo (hexL (l.take k)).length (Lib.byteCells (hexL (l.take k)))) ∧ Below w.heap.size w wr) (fun _ vi _ => l.length - (intOf vi).toNat)
  case atStart => exact ⟨0, Nat.zero_le _, rfl, hown', hb1⟩
  case round =>
    obtain ⟨k, hk, rfl, hr, hbr⟩ := hrel
    clear hown' hb1
    by_cases hlt : k < l.length
    · obtain ⟨b, o, rfl, hcell⟩ := hp (by omega)
      obtain ⟨x, hx⟩ : ∃ x : UInt8, x = l.getD k 0 := ⟨_, rfl⟩
      have hck : wr.cell? ⟨b, o + k, none⟩ = some (.int .u8 (x.toNat : Int)) := by
        rw [hbr.cell (p := ⟨b, o + k, none⟩) (World.block_lt_of_cell? w _ (hcell k hlt)), hcell k hlt, hx]
      have HX := Lib.hid hx
      clear hx hcell hp
      have hx8 : x.toNat < 256 := x.toNat_lt
      have i1 := run_digit .u8 ((x.toNat : Int) / 16) (by omega) (by omega)
      have i2 := run_digit .u8 ((x.toNat : Int) % 16) (by omega) (by omega)
      have hand := u8_and15 (x := (x.toNat : Int)) (by omega) (by omega)
      go_wp2
      have hnle : (hexL (l.take k)).length ≤ 2 * k := by rw [hexL_length, List.length_take]; omega
      go_region_law (refine step_append_lies _ rfl (.tmp 16) (.tmp 23) 22 rfl w.heap.size 5 i0 (.int .u8 0) 1 1 Tryd.underlying22 hi hz0 hz1 hz2 rfl (by decide) u3 _ _ rfl ((hr.out.alloc _).drew) ⟨wr.heap.size, 0, none⟩ 2 2 [.int .u8 ((hexD ((x.toNat : Int) / 16).toNat).toNat : Int), .int .u8 ((hexD ((x.toNat : Int) % 16).toNat).toNat : Int)] rfl rfl (World.news_of_block (cs := #[.int .u8 ((hexD ((x.toNat : Int) / 16).toNat).toNat : Int), .int .u8 ((hexD ((x.toNat : Int) % 16).toNat).toNat : Int)]) (t := 5) (fr := (0, 0)) (heap_alloc_new wr _)) (by intro u hu; simp at hu; rcases hu with rfl | rfl <;> rfl) (by decide) (by unfold maxLen; omega) (by omega) (by have := hbr.size; simp; omega) _ rfl ?_; intro g cap w2 hown2 hgrow2 hgc hlt2)
      all_goals
        go_wp2
        go_roundw
        case rel => exact ⟨k + 1, by omega, by go_num, Lib.hid (owns_hex hlt HX.out hown2), ((hbr.alloc hbr.size _).drew).grown hgrow2 (by have := hbr.size; simp; omega) (fun j hj => (hr.out.lt j hj).1)⟩
        case measure => simp [intOf]; omega
    · have hkl : l.take k = l := List.take_of_length_le (by omega)
      have hcv := fun (wx : World) (hx : BytesAt wx u3 (hexL (l.take k))) => hx.convert (P := Tryd.prog) 22 9 5 Tryd.underlying22 Tryd.underlying5 Tryd.underlying9
      rw [hkl] at hcv
      have hr2 := hr.out
      rw [hkl] at hr2
      have hcv2 := hcv wr (BytesAt.of_owns hr2)
      clear hcv hr2 hkl
      go_wp2
      go_ret
      exact ⟨rfl, hbr⟩

theorem nibble_any (c : Int) (w : World) (h0 : 0 ≤ c) (h1 : c < 256) :
    Calls Tryd.prog 35 #[.int .u8 c] w fun e w' => e = .returned (.int .i64 (nib c)) ∧ w' = w := by
  rcases (show c < 48 ∨ (48 ≤ c ∧ c ≤ 57) ∨ (57 < c ∧ c < 97) ∨ (97 ≤ c ∧ c ≤ 102) ∨ 102 < c by omega) with h | ⟨h, h'⟩ | ⟨h, h'⟩ | ⟨h, h'⟩ | h
  all_goals
    go_enter Tryd.func35, Tryd.ntmps35
    go_wp2
    go_ret
    exact ⟨ret_int (by unfold nib; repeat (first | split | omega)), rfl⟩

/-- What ParseHex gives: the bytes, or nil and ErrForm. -/
def HexParsed (w : World) (l : List UInt8) (v1 v2 : Value) : Prop :=
  (unhex l = none ∧ v1 = .slice none 0 0 ∧ v2 = .int .i64 8) ∨ (∃ t, unhex l = some t ∧ BytesAt w v1 t ∧ v2 = .int .i64 0)

set_option maxHeartbeats 1000000 in
theorem parseHex_any (s : ByteArray) (w : World) (hl : s.size ≤ 35184372088832) :
    Calls Tryd.prog 20 #[.string s] w fun e w' => ∃ v1 v2, e = .returned (.tuple #[v1, v2]) ∧ HexParsed w' s.data.toList v1 v2 ∧ Below w.heap.size w w' := by
  obtain ⟨i0, hi, hz0, hz1, hz2⟩ := info_parts infoU8
  by_cases hodd : s.size % 2 = 1
  · have hn : unhex s.data.toList = none := unhex_odd _ (by rw [str_len]; exact hodd)
    have h1 : ((s.size : Int) % 2 != 0) = true := by rw [bne_iff_ne]; omega
    clear hodd
    have HN := Lib.hid hn; clear hn
    go_enter Tryd.func20, Tryd.ntmps20
    go_wp2
    go_ret2
    exact ⟨_, _, rfl, Or.inl ⟨HN.out, rfl, rfl⟩, Below.refl _ _⟩
  · have h1 : ((s.size : Int) % 2 != 0) = false := by rw [bne_eq_false_iff_eq]; omega
    have HE : Hid (s.size % 2 = 0) := by show s.size % 2 = 0; omega
    clear hodd
    go_enter Tryd.func20, Tryd.ntmps20
    go_wp2_with (at_make; refine wpList_make_own _ rfl _ _ 22 rfl w.heap.size 5 i0 (.int .u8 0) 1 Tryd.underlying22 hi hz0 hz1 .i64 .i64 ((s.size : Int) / 2) (s.size / 2) rfl rfl ?c0 ?c1 ?c2 ?c3 ?_)
    case c0 => omega
    case c1 => rw [hz2]; omega
    case c2 => unfold maxLen; omega
    case c3 => exact Nat.le_refl _
    intro w1 hown hgrow
    have hb1 : Below w.heap.size w w1 := (Below.refl _ _).grown hgrow (Nat.le_refl _) (fun k hk => by cases hk)
    clear hgrow
    have hown' : Hid (w1.ownsRow w.heap.size 5 1 (.slice (some ⟨w.heap.size, 0, none⟩) 0 (s.size / 2)) 0 []) := hown
    clear hown
    go_wp2_with fail
    go_loopw [4, 5] (fun vo vi wr => ∃ (j : Nat) (acc : List UInt8), j ≤ s.size ∧ vi = .int .i64 j ∧ Hid (j % 2 = 0) ∧ Hid (unhex (s.data.toList.take j) = some acc) ∧ Hid (wr.ownsRow w.heap.size 5 1 vo acc.length (Lib.byteCells acc)) ∧ Below w.heap.size w wr) (fun _ vi _ => s.size - (intOf vi).toNat)
    case atStart => exact ⟨0, [], Nat.zero_le _, rfl, rfl, rfl, hown', hb1⟩
    case round =>
      obtain ⟨j, acc, hj, rfl, hj2, hacc, hr, hbr⟩ := hrel
      clear hown' hb1
      have HL := Lib.hid (str_len s)
      by_cases hlt : j < s.size
      · have hlt2 : j + 1 < s.size := by have := hj2.out; have := HE.out; omega
        obtain ⟨x, hx⟩ : ∃ x : UInt8, x = s[j] := ⟨_, rfl⟩
        obtain ⟨y, hy⟩ : ∃ y : UInt8, y = s[j + 1] := ⟨_, rfl⟩
        have HX : Hid (x = s.data.toList.getD j 0) := by show x = _; rw [str_getD s j hlt]; exact hx
        have HY : Hid (y = s.data.toList.getD (j + 1) 0) := by show y = _; rw [str_getD s (j + 1) hlt2]; exact hy
        have ix := hx.symm
        have iy := hy.symm
        clear hx hy
        have hx8 : x.toNat < 256 := x.toNat_lt
        have hy8 : y.toNat < 256 := y.toNat_lt
        have hxr := nib_range (x.toNat : Int)
        have hyr := nib_range (y.toNat : Int)
        by_cases hxa : nib (x.toNat : Int) < 0
        · have hstop : Hid (unhex s.data.toList = none) := unhex_stopj _ j hj2.out (by rw [HL.out]; exact hlt2) (by rw [← HX.out, ← HY.out]; exact pairBad_true (Or.inl hxa))
          clear hacc hr HX HY
          go_wp2_with fail
          go_quiet ((go_at_call 35; exact Calls.quiet_of_same (nibble_any _ _ (by omega) (by omega))))
          go_wp2
          go_ret2
          exact ⟨_, _, rfl, Or.inl ⟨hstop.out, rfl, rfl⟩, below_drewN hbr _⟩
        · by_cases hya : nib (y.toNat : Int) < 0
          · have hstop : Hid (unhex s.data.toList = none) := unhex_stopj _ j hj2.out (by rw [HL.out]; exact hlt2) (by rw [← HX.out, ← HY.out]; exact pairBad_true (Or.inr hya))
            clear hacc hr HX HY
            go_wp2_with fail
            go_quiet ((go_at_call 35; exact Calls.quiet_of_same (nibble_any _ _ (by omega) (by omega))))
            go_wp2
            go_ret2
            exact ⟨_, _, rfl, Or.inl ⟨hstop.out, rfl, rfl⟩, below_drewN hbr _⟩
          · have hor := or_pair (a := x) (b := y) (by omega) (by omega) (by omega) (by omega)
            have hp8 : (pairByte x y).toNat < 256 := (pairByte x y).toNat_lt
            have hst : Hid (unhex (s.data.toList.take (j + 2)) = some (acc ++ [pairByte x y])) := by
              have := unhex_stepj _ acc j hj2.out (by rw [HL.out]; exact hlt2) hacc.out (by rw [← HX.out, ← HY.out]; exact pairBad_false (by omega) (by omega))
              rw [← HX.out, ← HY.out] at this
              exact this
            have hal : acc.length ≤ s.size := by
              have := unhex_length _ _ hacc.out
              rw [List.length_take] at this
              have := HL.out
              omega
            clear HX HY hacc
            go_wp2_with fail
            go_quiet ((go_at_call 35; exact Calls.quiet_of_same (nibble_any _ _ (by omega) (by omega))))
            go_wp2_with (at_builtin; refine wpList_append_lies _ rfl (.tmp 37) (.tmp 43) 22 rfl w.heap.size 5 i0 (.int .u8 0) 1 1 Tryd.underlying22 hi hz0 hz1 hz2 rfl (by decide) u4 acc.length (Lib.byteCells acc) rfl (World.ownsRow.alloc (w := World.drewN wr _) hr.out _) ⟨wr.heap.size, 0, none⟩ 1 1 [.int .u8 ((pairByte x y).toNat : Int)] rfl rfl (World.news_of_block (cs := #[.int .u8 ((pairByte x y).toNat : Int)]) (t := 5) (fr := (0, 0)) (heap_alloc_new (World.drewN wr _) _)) (fun u hu => by simp at hu; subst hu; rfl) (by decide) (by unfold maxLen; omega) (by omega) (by have := hbr.size; simp; omega) _ rfl ?_)
            intro g cap w2 hown2 hgrow2 hgc hlt2
            go_wp2
            go_roundw
            case rel => exact ⟨j + 2, acc ++ [pairByte x y], by omega, by go_num, by have := hj2.out; show (j + 2) % 2 = 0; omega, hst, Lib.hid (owns_snoc hown2), ((below_drewN hbr _).alloc hbr.size _).grown hgrow2 (by have := hbr.size; simp; omega) (fun i hi => (hr.out.lt i hi).1)⟩
            case measure => simp [intOf]; omega
      · have hjs : s.data.toList.take j = s.data.toList := List.take_of_length_le (by have := HL.out; omega)
        have ha2 := hacc.out
        rw [hjs] at ha2
        have hres : Hid (HexParsed wr s.data.toList u4 (.int .i64 0)) := Or.inr ⟨acc, ha2, BytesAt.of_owns hr.out, rfl⟩
        clear hjs ha2 hacc hr
        go_wp2
        go_ret2
        exact ⟨_, _, rfl, hres.out, hbr⟩
end Go.Proofs.YtmfdfpebbnagfaaDoor
