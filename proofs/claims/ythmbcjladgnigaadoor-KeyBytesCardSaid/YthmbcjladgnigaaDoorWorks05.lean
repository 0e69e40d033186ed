/-
  The examples of layer 5 hold.
  Conditions: the library's table lies in the world.
-/
import Derived.Test.YthmbcjladgnigaaDoorKeyM
set_option linter.unusedVariables false
namespace Go.Proofs.YthmbcjladgnigaaDoor
open Go Go.RowKit

theorem repeat_is (s b : ByteArray) (c : Nat) (c' : Int) (hc' : c' = (c : Int)) (h : Lib.repeatL s.data.toList c = b.data.toList) (hc : c ≤ 1000000) (hs : s.size ≤ 1000) (w : World) :
    Calls Tryd.prog 25 #[.string s, .int .i64 c'] w fun e w' => e = .returned (.string b) ∧ Below w.heap.size w w' := by
  subst hc'
  have h2 := Tryd.strings_Repeat s c w (by omega) (Nat.le_trans (Nat.mul_le_mul hs hc) (by decide))
  rw [h, str_back] at h2
  exact h2
theorem kcheck_is (s : ByteArray) (x : Int) (hz : s.size ≤ 1099511627776) (h : keyV s.data.toList = x) (w : World) :
    Calls Tryd.prog 12 #[.string s] w fun e w' => e = .returned (.int .i64 x) ∧ Below w.heap.size w w' := by
  subst h; exact kcheck_any s hz w
theorem kfits_is (s : ByteArray) (m x : Int) (hz : s.size ≤ 1099511627776) (h : kfitsV s.data.toList m = x) (w : World) :
    Calls Tryd.prog 14 #[.string s, .int .i64 m] w fun e w' => e = .returned (.int .i64 x) ∧ Below w.heap.size w w' := by
  subst h; exact kfits_any s hz m w
theorem korder_is (a b : ByteArray) (x : Int) (h : Lib.compareBytes a.data.toList b.data.toList = x) (w : World) :
    Calls Tryd.prog 16 #[.string a, .string b] w fun e w' => e = .returned (.int .i64 x) ∧ w = w' := by
  subst h; exact korder_any a b w
theorem kcommon_is (a b : ByteArray) (x : Nat) (x' : Int) (hx : x' = (x : Int)) (ha : a.size ≤ 1099511627776) (hb : b.size ≤ 1099511627776) (h : commonL a.data.toList b.data.toList = x) (w : World) :
    Calls Tryd.prog 18 #[.string a, .string b] w fun e w' => e = .returned (.int .i64 x') ∧ Below w.heap.size w w' := by
  subst hx; subst h; exact kcommon_any a b ha hb w
theorem knext_is (s r : ByteArray) (x : Bool) (hz : s.size ≤ 1099511627776) (h : nextV s.data.toList = (r.data.toList, x)) (w : World) :
    Calls Tryd.prog 20 #[.string s] w fun e w' => e = .returned (.tuple #[.string r, .bool x]) ∧ Below w.heap.size w w' := by
  have h2 := knext_any s hz w
  rw [h] at h2
  simp only [str_back] at h2
  exact h2
theorem kname_is (n : Int) (r : ByteArray) (x : Int) (h : nameV n = (r.data.toList, x)) (w : World) (ht : Tab w) :
    Calls Tryd.prog 22 #[.int .i64 n] w fun e w' => e = .returned (.tuple #[.string r, .int .i64 x]) ∧ Below w.heap.size w w' := by
  have h2 := kname_any n w ht
  rw [h] at h2
  simp only [str_back] at h2
  exact h2
def a31 : ByteArray := ⟨(List.replicate 31 97).toArray⟩
def a31z : ByteArray := ⟨(List.replicate 31 (97 : UInt8) ++ [122]).toArray⟩
def a30 : ByteArray := ⟨(List.replicate 30 97).toArray⟩
def a30b : ByteArray := ⟨(List.replicate 30 (97 : UInt8) ++ [98]).toArray⟩
def z32 : ByteArray := ⟨(List.replicate 32 122).toArray⟩
def a33 : ByteArray := ⟨(List.replicate 33 97).toArray⟩
theorem name_999999 : nameV 999999 = ([107, 57, 57, 57, 57, 57, 57], 0) := by
  unfold nameV
  rw [if_neg (by decide)]
  simp [Lib.decDigits]

set_option maxRecDepth 100000 in
set_option maxHeartbeats 4000000 in
theorem works_any (w : World) (ht : Tab w) :
    Calls Tryd.prog 11 #[] w fun e w' => e = .returned (.bool true) ∧ Below w.heap.size w w' := by
  have HT := Lib.hid ht; clear ht
  have h1 : (a31 ++ ⟨#[122]⟩ : ByteArray) = a31z := by decide +kernel
  have h2 : (a30 ++ ⟨#[98]⟩ : ByteArray) = a30b := by decide +kernel
  have s1 : a31.size = 31 := by decide +kernel
  have s2 : a30.size = 30 := by decide +kernel
  have s3 : (⟨#[122]⟩ : ByteArray).size = 1 := rfl
  have s4 : (⟨#[98]⟩ : ByteArray).size = 1 := rfl
  have c1 := Below.refl w.heap.size w
  go_enter Tryd.func11, Tryd.ntmps11
  go_wp2_with fail
  refine (knext_is _ ⟨#[97, 45]⟩ true (by decide) (by decide +kernel) _).mono ?_
  rintro e w101 ⟨rfl, b1⟩
  have c2 := c1.trans (b1.mono c1.size); clear c1 b1
  have c1 := c2; clear c2
  go_wp2_with fail
  refine (repeat_is _ a31 31 _ rfl (by decide +kernel) (by decide) (by decide) _).mono ?_
  rintro e w102 ⟨rfl, b1⟩
  have c2 := c1.trans (b1.mono c1.size); clear c1 b1
  have c1 := c2; clear c2
  go_wp2_with fail
  refine (knext_is a31z a30b true (by decide +kernel) (by decide +kernel) _).mono ?_
  rintro e w103 ⟨rfl, b1⟩
  have c2 := c1.trans (b1.mono c1.size); clear c1 b1
  have c1 := c2; clear c2
  go_wp2_with fail
  refine (repeat_is _ z32 32 _ rfl (by decide +kernel) (by decide) (by decide) _).mono ?_
  rintro e w104 ⟨rfl, b1⟩
  have c2 := c1.trans (b1.mono c1.size); clear c1 b1
  have c1 := c2; clear c2
  go_wp2_with fail
  refine (knext_is z32 ⟨#[]⟩ false (by decide +kernel) (by decide +kernel) _).mono ?_
  rintro e w105 ⟨rfl, b1⟩
  have c2 := c1.trans (b1.mono c1.size); clear c1 b1
  have c1 := c2; clear c2
  go_wp2_with fail
  refine (kname_is _ ⟨#[107, 57, 57, 57, 57, 57, 57]⟩ 0 name_999999 _ (HT.out.below c1)).mono ?_
  rintro e w106 ⟨rfl, b1⟩
  have c2 := c1.trans (b1.mono c1.size); clear c1 b1
  have c1 := c2; clear c2
  go_wp2_with fail
  refine (kname_is _ ⟨#[]⟩ 3 (by decide) _ (HT.out.below c1)).mono ?_
  rintro e w107 ⟨rfl, b1⟩
  have c2 := c1.trans (b1.mono c1.size); clear c1 b1
  have c1 := c2; clear c2
  go_wp2_with fail
  refine (kcheck_is _ 0 (by decide) (by decide +kernel) _).mono ?_
  rintro e w108 ⟨rfl, b1⟩
  have c2 := c1.trans (b1.mono c1.size); clear c1 b1
  have c1 := c2; clear c2
  go_wp2_with fail
  refine (kcheck_is _ 2 (by decide) (by decide +kernel) _).mono ?_
  rintro e w109 ⟨rfl, b1⟩
  have c2 := c1.trans (b1.mono c1.size); clear c1 b1
  have c1 := c2; clear c2
  go_wp2_with fail
  refine (kcheck_is _ 2 (by decide) (by decide +kernel) _).mono ?_
  rintro e w110 ⟨rfl, b1⟩
  have c2 := c1.trans (b1.mono c1.size); clear c1 b1
  have c1 := c2; clear c2
  go_wp2_with fail
  refine (repeat_is _ a33 33 _ rfl (by decide +kernel) (by decide) (by decide) _).mono ?_
  rintro e w111 ⟨rfl, b1⟩
  have c2 := c1.trans (b1.mono c1.size); clear c1 b1
  have c1 := c2; clear c2
  go_wp2_with fail
  refine (kcheck_is a33 12 (by decide +kernel) (by decide +kernel) _).mono ?_
  rintro e w112 ⟨rfl, b1⟩
  have c2 := c1.trans (b1.mono c1.size); clear c1 b1
  have c1 := c2; clear c2
  go_wp2_with fail
  refine (kfits_is _ 2 12 (by decide) (by decide +kernel) _).mono ?_
  rintro e w113 ⟨rfl, b1⟩
  have c2 := c1.trans (b1.mono c1.size); clear c1 b1
  have c1 := c2; clear c2
  go_wp2_with fail
  refine (korder_is _ _ (-1) (by decide +kernel) _).mono ?_
  rintro e w114 ⟨rfl, rfl⟩
  go_wp2_with fail
  refine (kcommon_is _ _ 2 2 rfl (by decide) (by decide) (by decide +kernel) _).mono ?_
  rintro e w115 ⟨rfl, b1⟩
  have c2 := c1.trans (b1.mono c1.size); clear c1 b1
  have c1 := c2; clear c2
  go_wp2_with fail
  refine (repeat_is _ a30 30 _ rfl (by decide +kernel) (by decide) (by decide) _).mono ?_
  rintro e w116 ⟨rfl, b1⟩
  have c2 := c1.trans (b1.mono c1.size); clear c1 b1
  have c1 := c2; clear c2
  go_wp2_with fail
  go_ret
  exact ⟨rfl, c1⟩
end Go.Proofs.YthmbcjladgnigaaDoor
