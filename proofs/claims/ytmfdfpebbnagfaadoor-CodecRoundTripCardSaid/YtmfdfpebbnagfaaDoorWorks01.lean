/-
  bytes.Equal, and the chapter's examples hold.
  Conditions: the library's table lies in the world.
-/
import Derived.Test.YtmfdfpebbnagfaaDoorCodec2
import Derived.Test.YtmfdfpebbnagfaaDoorDigits2
import Derived.Test.YtmfdfpebbnagfaaDoorLaws06
set_option linter.unusedVariables false
namespace Go.Proofs.YtmfdfpebbnagfaaDoor
open Go Go.RowKit

theorem equal_any (v1 v2 : Value) (a b : List UInt8) (w : World) (h1 : BytesAt w v1 a) (h2 : BytesAt w v2 b) :
    Calls Tryd.prog 17 #[v1, v2] w fun e w' => e = .returned (.bool (a == b)) ∧ w' = w := by
  have h := Tryd.bytes_Equal_strs v1 v2 ⟨a.toArray⟩ ⟨b.toArray⟩ w (h1.convert 22 9 5 Tryd.underlying22 Tryd.underlying5 Tryd.underlying9) (h2.convert 22 9 5 Tryd.underlying22 Tryd.underlying5 Tryd.underlying9)
  rw [ByteArray.toList_eq, ByteArray.toList_eq] at h
  exact h
theorem equal_is (v1 v2 : Value) (a b : List UInt8) (x : Bool) (w : World) (h1 : BytesAt w v1 a) (h2 : BytesAt w v2 b) (hx : (a == b) = x) :
    Calls Tryd.prog 17 #[v1, v2] w fun e w' => e = .returned (.bool x) ∧ w = w' := by
  rw [← hx]
  exact keeps (equal_any v1 v2 a b w h1 h2)
theorem append_is (v : Value) (l r : List UInt8) (n : Nat) (n' wd x : Int) (w : World) (hn' : n' = (n : Int)) (hv : BytesAt w v l) (hl : l.length ≤ 35184372088832) (hn : n < 256 ^ 8) (h : appV l n wd = (r, x)) :
    Calls Tryd.prog 13 #[v, .int .u64 n', .int .i64 wd] w fun e w' => ∃ v1, e = .returned (.tuple #[v1, .int .i64 x]) ∧ BytesAt w' v1 r ∧ Below w.heap.size w w' := by
  subst hn'
  have := append_any v l n wd w hv hl hn
  rw [h] at this
  exact this
theorem uint_is (v : Value) (l : List UInt8) (n : Nat) (n' at_ wd x : Int) (w : World) (hn' : n' = (n : Int)) (hv : BytesAt w v l) (hl : l.length ≤ 35184372088832) (h : uintV l at_ wd = (n, x)) :
    Calls Tryd.prog 15 #[v, .int .i64 at_, .int .i64 wd] w fun e w' => e = .returned (.tuple #[.int .u64 n', .int .i64 x]) ∧ Below w.heap.size w w' := by
  subst hn'
  have := uint_any v l at_ wd w hv hl
  rw [h] at this
  exact this
theorem parseDigits_is (s : ByteArray) (n : Nat) (n' x : Int) (w : World) (hn' : n' = (n : Int)) (hl : s.size ≤ 35184372088832) (ht : Tab w) (h : digV s.data.toList = (n, x)) :
    Calls Tryd.prog 24 #[.string s] w fun e w' => e = .returned (.tuple #[.int .u64 n', .int .i64 x]) ∧ Below w.heap.size w w' := by
  subst hn'
  have := parseDigits_any s w hl ht
  rw [h] at this
  exact this
theorem parseHex_ok (s : ByteArray) (t : List UInt8) (w : World) (hl : s.size ≤ 35184372088832) (h : unhex s.data.toList = some t) :
    Calls Tryd.prog 20 #[.string s] w fun e w' => ∃ v1, e = .returned (.tuple #[v1, .int .i64 0]) ∧ BytesAt w' v1 t ∧ Below w.heap.size w w' := by
  refine (parseHex_any s w hl).mono ?_
  rintro e w' ⟨v1, v2, rfl, hp, hb⟩
  rcases hp with ⟨hn, _⟩ | ⟨t', ht, hv, rfl⟩
  · rw [h] at hn; cases hn
  · rw [h] at ht; cases ht; exact ⟨v1, rfl, hv, hb⟩
theorem parseHex_bad (s : ByteArray) (w : World) (hl : s.size ≤ 35184372088832) (h : unhex s.data.toList = none) :
    Calls Tryd.prog 20 #[.string s] w fun e w' => e = .returned (.tuple #[.slice none 0 0, .int .i64 8]) ∧ Below w.heap.size w w' := by
  refine (parseHex_any s w hl).mono ?_
  rintro e w' ⟨v1, v2, rfl, hp, hb⟩
  rcases hp with ⟨_, rfl, rfl⟩ | ⟨t', ht, hv, rfl⟩
  · exact ⟨rfl, hb⟩
  · rw [h] at ht; cases ht
theorem hex_is (v : Value) (l : List UInt8) (b : ByteArray) (w : World) (hv : BytesAt w v l) (hl : l.length ≤ 35184372088832) (h : (⟨(hexL l).toArray⟩ : ByteArray) = b) :
    Calls Tryd.prog 22 #[v] w fun e w' => e = .returned (.string b) ∧ Below w.heap.size w w' := by
  rw [← h]; exact hex_any v l w hv hl
theorem digits_is (n : Nat) (n' : Int) (b : ByteArray) (w : World) (hn' : n' = (n : Int)) (hn : n < 18446744073709551616) (ht : Tab w) (h : (⟨(Lib.decDigits n).toArray⟩ : ByteArray) = b) :
    Calls Tryd.prog 26 #[.int .u64 n'] w fun e w' => e = .returned (.string b) ∧ Below w.heap.size w w' := by
  subst hn'; rw [← h]; exact digits_any n hn w ht
theorem fits_is (n : Nat) (n' wd : Int) (x : Bool) (w : World) (hn' : n' = (n : Int)) (hn : n < 256 ^ 8) (h : fitsV n wd = x) :
    Calls Tryd.prog 18 #[.int .u64 n', .int .i64 wd] w fun e w' => e = .returned (.bool x) ∧ Below w.heap.size w w' := by
  subst hn'; rw [← h]; exact fits_any n wd w hn

theorem hexD_dec0 : Lib.decDigits 0 = [48] := by rw [Lib.decDigits, dif_pos (by decide)]; rfl

set_option maxHeartbeats 2000000 in
theorem works_any (w : World) (htab : Tab w) :
    Calls Tryd.prog 12 #[] w fun e w' => e = .returned (.bool true) ∧ Below w.heap.size w w' := by
  have HT := Lib.hid htab; clear htab
  go_enter Tryd.func12, Tryd.ntmps12
  go_wp2_with fail
  have c1 : Below w.heap.size w (w.alloc (.cells #[.int .u8 7] 5)) := (Below.refl _ _).alloc (Nat.le_refl _) _
  refine (append_is _ [7] [7, 1, 2] 513 513 2 0 _ rfl (bytesAt_one w 7 7 rfl _) (by decide) (by decide) (by decide)).mono ?_
  rintro e w1 ⟨v1, rfl, B1, b1⟩
  have c2 := c1.trans (b1.mono c1.size); clear c1 b1
  go_wp2_with fail
  refine (uint_is v1 [7, 1, 2] 513 513 1 2 0 _ rfl B1 (by decide) (by decide)).mono ?_
  rintro e w2 ⟨rfl, b1⟩
  have B2 := B1.below b1
  have c1 := c2.trans (b1.mono c2.size); clear c2 b1 B1
  go_wp2_with fail
  refine (append_is _ [] [] 256 256 1 16 _ rfl (BytesAt.nil _ _ _) (by decide) (by decide) (by decide)).mono ?_
  rintro e w3 ⟨v3, rfl, B3, b1⟩
  have B1 := B2.below b1
  have c2 := c1.trans (b1.mono c1.size); clear c1 b1 B2 B3
  go_wp2_with fail
  refine (uint_is v1 [7, 1, 2] 0 0 2 2 14 _ rfl B1 (by decide) (by decide)).mono ?_
  rintro e w4 ⟨rfl, b1⟩
  have B2 := B1.below b1
  have c1 := c2.trans (b1.mono c2.size); clear c2 b1 B1
  go_wp2_with fail
  refine (parseHex_ok _ [15, 160] _ (by decide) (by decide)).mono ?_
  rintro e w5 ⟨x1, rfl, X1, b1⟩
  have B1 := B2.below b1
  have c2 := c1.trans (b1.mono c1.size); clear c1 b1 B2
  go_wp2_with fail
  refine (parseHex_bad _ _ (by decide) (by decide)).mono ?_
  rintro e w6 ⟨rfl, b1⟩
  have B2 := B1.below b1
  have X2 := X1.below b1
  have c1 := c2.trans (b1.mono c2.size); clear c2 b1 B1 X1
  go_wp2_with fail
  refine (parseDigits_is _ 18446744073709551615 18446744073709551615 0 _ rfl (by decide) (HT.out.below c1) (by decide)).mono ?_
  rintro e w7 ⟨rfl, b1⟩
  have B1 := B2.below b1
  have X1 := X2.below b1
  have c2 := c1.trans (b1.mono c1.size); clear c1 b1 B2 X2
  go_wp2_with fail
  refine (parseDigits_is _ 0 0 16 _ rfl (by decide) (HT.out.below c2) (by decide)).mono ?_
  rintro e w8 ⟨rfl, b1⟩
  have B2 := B1.below b1
  have X2 := X1.below b1
  have c1 := c2.trans (b1.mono c2.size); clear c2 b1 B1 X1
  go_wp2_with fail
  refine (parseDigits_is _ 0 0 8 _ rfl (by decide) (HT.out.below c1) (by decide)).mono ?_
  rintro e w9 ⟨rfl, b1⟩
  have B1 := B2.below b1
  have X1 := X2.below b1
  have c2 := c1.trans (b1.mono c1.size); clear c1 b1 B2 X2
  go_wp2_with fail
  have n1 := bytesAt_new w9 [7, 1, 2] #[.int .u8 7, .int .u8 1, .int .u8 2] rfl 5
  have g1 : Below w9.heap.size w9 (w9.alloc (.cells #[.int .u8 7, .int .u8 1, .int .u8 2] 5)) := (Below.refl _ _).alloc (Nat.le_refl _) _
  have X2 := X1.below g1
  have c1 := c2.trans (g1.mono c2.size)
  refine (equal_is v1 _ [7, 1, 2] [7, 1, 2] true _ (B1.below g1) n1 (by decide)).mono ?_
  rintro e w10 ⟨rfl, hw⟩
  rw [hw] at X2 c1
  clear hw n1 g1 B1 X1 c2
  go_wp2_with fail
  have n1 := bytesAt_new w10 [15, 160] #[.int .u8 15, .int .u8 160] rfl 5
  have g1 : Below w10.heap.size w10 (w10.alloc (.cells #[.int .u8 15, .int .u8 160] 5)) := (Below.refl _ _).alloc (Nat.le_refl _) _
  have X1 := X2.below g1
  have c2 := c1.trans (g1.mono c1.size)
  refine (equal_is x1 _ [15, 160] [15, 160] true _ X1 n1 (by decide)).mono ?_
  rintro e w11 ⟨rfl, hw⟩
  rw [hw] at X1 c2
  clear hw n1 g1 X2 c1
  go_wp2_with fail
  refine (hex_is x1 [15, 160] ⟨#[48, 102, 97, 48]⟩ _ X1 (by decide) (by decide)).mono ?_
  rintro e w12 ⟨rfl, b1⟩
  have c1 := c2.trans (b1.mono c2.size); clear c2 b1 X1
  go_wp2_with fail
  refine (digits_is 0 0 ⟨#[48]⟩ _ rfl (by decide) (HT.out.below c1) (by rw [hexD_dec0])).mono ?_
  rintro e w13 ⟨rfl, b1⟩
  have c2 := c1.trans (b1.mono c1.size); clear c1 b1
  go_wp2_with fail
  refine (fits_is 255 255 1 true _ rfl (by decide) (by decide)).mono ?_
  rintro e w14 ⟨rfl, b1⟩
  have c1 := c2.trans (b1.mono c2.size); clear c2 b1
  go_wp2_with fail
  refine (fits_is 0 0 3 false _ rfl (by decide) (by decide)).mono ?_
  rintro e w15 ⟨rfl, b1⟩
  have c2 := c1.trans (b1.mono c1.size); clear c1 b1
  go_wp2_with fail
  go_ret
  exact ⟨rfl, c2⟩
end Go.Proofs.YtmfdfpebbnagfaaDoor
