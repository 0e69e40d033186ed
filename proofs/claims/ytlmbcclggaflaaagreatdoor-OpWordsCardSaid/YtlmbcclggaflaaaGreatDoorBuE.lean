/-
  The reference of layer 39: used.
  What the reference of layer 6 computes, on lists of bytes: the same functions as the program's.
  The reference of layer 39: Check and Print of any operation.
  The reference of layer 39: Print of any operation.
  What the reading functions of the kinds compute.
  What readCrash computes.
  The kind whose word is given, as the program looks it up.
  What Parse computes.
  Conditions: as each theorem says (bytes: at most 100,000; the library's tables and variables lie in the world).
-/
import Derived.Test.YtlmbcclggaflaaaGreatDoorBuC
import Derived.Test.YtlmbcclggaflaaaGreatDoorBuD
import Derived.Deep.RegionWith
import Derived.Deep.CutRange
import Derived.Deep.CutBlock
import Derived.Test.YtlmbcclggaflaaaGreatDoorShelf
import Derived.Test.YtlmbcclggaflaaaGreatDoorBuB
set_option linter.unusedVariables false
namespace Go.Proofs.YtlmbcclggaflaaaGreatDoor
open Go Go.RowKit

theorem results_u {fn : Func} {t u : Tmp} (h : fn.results = #[.cell t 28, .tmp u]) (tmps : Array Value) (w : World) (B : Nat) (k a b : Int) (x v : ByteArray) (q : Value) (hp : OpBox w B k a b x v) (ht : tmps.getD t undef = .pointer (some ⟨B, 0, none⟩)) (hu : tmps.getD u undef = q) : (results fn tmps).run Tryz.prog w = .ok (.tuple #[opA k a b x v, q]) w := by
  obtain ⟨⟨h0, h1, h2, h3, h4⟩, _⟩ := hp
  have ht' : tmps[t]?.getD undef = .pointer (some ⟨B, 0, none⟩) := by simpa using ht
  have hu' : tmps[u]?.getD undef = q := by simpa using hu
  simp [results, h, ht', hu', asAddr]
  go_simp
  done
theorem OpBox.mid (w : World) (o o' : Obj) (k a b : Int) (x v : ByteArray) (t : TypeId) : OpBox (((w.alloc o).alloc (.cells #[.int .i64 k, .int .i64 a, .int .i64 b, .string x, .string v] t)).alloc o') (w.heap.size + 1) k a b x v := by
  have h := OpBox.new (w.alloc o) k a b x v t
  rw [World.size_alloc] at h
  exact h.below ((Below.refl _ _).alloc (Nat.le_refl _) _)
theorem below3 (w : World) (o o' o2 : Obj) : Below w.heap.size w (((w.alloc o).alloc o').alloc o2) := (below2 w o o').alloc (by simp; omega) _
set_option maxRecDepth 100000 in
set_option maxHeartbeats 2000000 in
theorem rused_sync (a b : Int) (x v : ByteArray) (w : World) :
    Calls Tryz.prog 76 #[opA 4 a b x v] w fun e w' => e = .returned (.tuple #[opA 4 0 0 ⟨#[]⟩ ⟨#[]⟩, .bool true]) ∧ Below w.heap.size w w' := by
  go_enter Tryz.func76, Tryz.ntmps76
  go_wp2_with fail
  exact bodyPost_ret (results_u rfl _ _ (w.heap.size + 1) 4 0 0 ⟨#[]⟩ ⟨#[]⟩ _ (OpBox.mid _ _ _ _ _ _ _ _ _) rfl rfl) rfl ⟨rfl, below3 _ _ _ _⟩
set_option maxRecDepth 100000 in
set_option maxHeartbeats 2000000 in
theorem rused_step (a b : Int) (x v : ByteArray) (w : World) :
    Calls Tryz.prog 76 #[opA 5 a b x v] w fun e w' => e = .returned (.tuple #[opA 5 0 0 ⟨#[]⟩ ⟨#[]⟩, .bool true]) ∧ Below w.heap.size w w' := by
  go_enter Tryz.func76, Tryz.ntmps76
  go_wp2_with fail
  exact bodyPost_ret (results_u rfl _ _ (w.heap.size + 1) 5 0 0 ⟨#[]⟩ ⟨#[]⟩ _ (OpBox.mid _ _ _ _ _ _ _ _ _) rfl rfl) rfl ⟨rfl, below3 _ _ _ _⟩
set_option maxRecDepth 100000 in
set_option maxHeartbeats 2000000 in
theorem rused_reopen (a b : Int) (x v : ByteArray) (w : World) :
    Calls Tryz.prog 76 #[opA 8 a b x v] w fun e w' => e = .returned (.tuple #[opA 8 0 0 ⟨#[]⟩ ⟨#[]⟩, .bool true]) ∧ Below w.heap.size w w' := by
  go_enter Tryz.func76, Tryz.ntmps76
  go_wp2_with fail
  exact bodyPost_ret (results_u rfl _ _ (w.heap.size + 1) 8 0 0 ⟨#[]⟩ ⟨#[]⟩ _ (OpBox.mid _ _ _ _ _ _ _ _ _) rfl rfl) rfl ⟨rfl, below3 _ _ _ _⟩
set_option maxRecDepth 100000 in
set_option maxHeartbeats 2000000 in
theorem rused_bad (k a b : Int) (x v : ByteArray) (hk : k < 1 ∨ 8 < k) (w : World) :
    Calls Tryz.prog 76 #[opA k a b x v] w fun e w' => e = .returned (.tuple #[opA k 0 0 ⟨#[]⟩ ⟨#[]⟩, .bool false]) ∧ Below w.heap.size w w' := by
  have d1 : (k == 1) = false := beq_false_of_ne (by omega)
  have d2 : (k == 2) = false := beq_false_of_ne (by omega)
  have d3 : (k == 3) = false := beq_false_of_ne (by omega)
  have d4 : (k == 4) = false := beq_false_of_ne (by omega)
  have d5 : (k == 5) = false := beq_false_of_ne (by omega)
  have d6 : (k == 6) = false := beq_false_of_ne (by omega)
  have d7 : (k == 7) = false := beq_false_of_ne (by omega)
  have d8 : (k == 8) = false := beq_false_of_ne (by omega)
  clear hk
  go_enter Tryz.func76, Tryz.ntmps76
  go_wp2_with fail
  exact bodyPost_ret (results_u rfl _ _ (w.heap.size + 1) k 0 0 ⟨#[]⟩ ⟨#[]⟩ _ (OpBox.mid _ _ _ _ _ _ _ _ _) rfl rfl) rfl ⟨rfl, below3 _ _ _ _⟩
set_option maxRecDepth 100000 in
set_option maxHeartbeats 2000000 in
theorem rused_put (a b : Int) (x v : ByteArray) (hx : x.size ≤ 100000) (w : World) :
    Calls Tryz.prog 76 #[opA 1 a b x v] w fun e w' => e = .returned (.tuple #[opA 1 0 0 x v, .bool (keyV x.data.toList == 0 && decide (v.size ≤ 512))]) ∧ Below w.heap.size w w' := by
  obtain ⟨K, hK⟩ : ∃ K, keyV x.data.toList = K := ⟨_, rfl⟩
  rw [hK]
  have HK := Lib.hid hK
  have HX := Lib.hid hx
  clear hK hx
  obtain ⟨y, hy⟩ : ∃ y, (K == 0) = y := ⟨_, rfl⟩
  have d1 : decide ((v.size : Int) ≤ 512) = decide (v.size ≤ 512) := by
    by_cases h : v.size ≤ 512
    · rw [decide_eq_true h, decide_eq_true (by omega)]
    · rw [decide_eq_false h, decide_eq_false (by omega)]
  obtain ⟨z, hz⟩ : ∃ z, decide (v.size ≤ 512) = z := ⟨_, rfl⟩
  rw [hy, hz]
  rw [hz] at d1
  cases y with
  | false =>
    clear hz
    go_enter Tryz.func76, Tryz.ntmps76
    go_wp2_with fail
    refine (rkcheck_any x (by have := HX.out; omega) _).mono ?_
    rw [HK.out]
    rintro e w1 ⟨rfl, rfl⟩
    go_wp2_with fail
    exact bodyPost_ret (results_u rfl _ _ (w.heap.size + 1) 1 0 0 x v _ (OpBox.mid _ _ _ _ _ _ _ _ _) rfl rfl) rfl ⟨rfl, below3 _ _ _ _⟩
  | true =>
    go_enter Tryz.func76, Tryz.ntmps76
    go_wp2_with fail
    refine (rkcheck_any x (by have := HX.out; omega) _).mono ?_
    rw [HK.out]
    rintro e w1 ⟨rfl, rfl⟩
    go_wp2_with fail
    exact bodyPost_ret (results_u rfl _ _ (w.heap.size + 1) 1 0 0 x v _ (OpBox.mid _ _ _ _ _ _ _ _ _) rfl rfl) rfl ⟨rfl, below3 _ _ _ _⟩
set_option maxRecDepth 100000 in
set_option maxHeartbeats 2000000 in
theorem rused_get (a b : Int) (x v : ByteArray) (hx : x.size ≤ 100000) (w : World) :
    Calls Tryz.prog 76 #[opA 2 a b x v] w fun e w' => e = .returned (.tuple #[opA 2 0 0 x ⟨#[]⟩, .bool (keyV x.data.toList == 0)]) ∧ Below w.heap.size w w' := by
  obtain ⟨K, hK⟩ : ∃ K, keyV x.data.toList = K := ⟨_, rfl⟩
  rw [hK]
  have HK := Lib.hid hK
  have HX := Lib.hid hx
  clear hK hx
  obtain ⟨y, hy⟩ : ∃ y, (K == 0) = y := ⟨_, rfl⟩
  rw [hy]
  go_enter Tryz.func76, Tryz.ntmps76
  go_wp2_with fail
  refine (rkcheck_any x (by have := HX.out; omega) _).mono ?_
  rw [HK.out]
  rintro e w1 ⟨rfl, rfl⟩
  go_wp2_with fail
  exact bodyPost_ret (results_u rfl _ _ (w.heap.size + 1) 2 0 0 x ⟨#[]⟩ _ (OpBox.mid _ _ _ _ _ _ _ _ _) rfl rfl) rfl ⟨rfl, below3 _ _ _ _⟩
set_option maxRecDepth 100000 in
set_option maxHeartbeats 2000000 in
theorem rused_delete (a b : Int) (x v : ByteArray) (hx : x.size ≤ 100000) (w : World) :
    Calls Tryz.prog 76 #[opA 3 a b x v] w fun e w' => e = .returned (.tuple #[opA 3 0 0 x ⟨#[]⟩, .bool (keyV x.data.toList == 0)]) ∧ Below w.heap.size w w' := by
  obtain ⟨K, hK⟩ : ∃ K, keyV x.data.toList = K := ⟨_, rfl⟩
  rw [hK]
  have HK := Lib.hid hK
  have HX := Lib.hid hx
  clear hK hx
  obtain ⟨y, hy⟩ : ∃ y, (K == 0) = y := ⟨_, rfl⟩
  rw [hy]
  go_enter Tryz.func76, Tryz.ntmps76
  go_wp2_with fail
  refine (rkcheck_any x (by have := HX.out; omega) _).mono ?_
  rw [HK.out]
  rintro e w1 ⟨rfl, rfl⟩
  go_wp2_with fail
  exact bodyPost_ret (results_u rfl _ _ (w.heap.size + 1) 3 0 0 x ⟨#[]⟩ _ (OpBox.mid _ _ _ _ _ _ _ _ _) rfl rfl) rfl ⟨rfl, below3 _ _ _ _⟩
set_option maxRecDepth 100000 in
set_option maxHeartbeats 2000000 in
theorem rused_policy (a b : Int) (x v : ByteArray) (w : World) :
    Calls Tryz.prog 76 #[opA 6 a b x v] w fun e w' => e = .returned (.tuple #[opA 6 a 0 ⟨#[]⟩ ⟨#[]⟩, .bool (decide (a = 1 ∨ a = 2))]) ∧ Below w.heap.size w w' := by
  by_cases h1 : a = 1
  · subst h1
    go_enter Tryz.func76, Tryz.ntmps76
    go_wp2_with fail
    exact bodyPost_ret (results_u rfl _ _ (w.heap.size + 1) 6 1 0 ⟨#[]⟩ ⟨#[]⟩ _ (OpBox.mid _ _ _ _ _ _ _ _ _) rfl rfl) rfl ⟨rfl, below3 _ _ _ _⟩
  · by_cases h2 : a = 2
    · subst h2
      go_enter Tryz.func76, Tryz.ntmps76
      go_wp2_with fail
      exact bodyPost_ret (results_u rfl _ _ (w.heap.size + 1) 6 2 0 ⟨#[]⟩ ⟨#[]⟩ _ (OpBox.mid _ _ _ _ _ _ _ _ _) rfl rfl) rfl ⟨rfl, below3 _ _ _ _⟩
    · have HB : Hid (decide (a = 1 ∨ a = 2) = false) := by show _ = _; rw [decide_eq_false_iff_not]; omega
      have d1 : (a == 1) = false := beq_false_of_ne h1
      have d2 : (a == 2) = false := beq_false_of_ne h2
      rw [HB.out]
      clear h1 h2
      go_enter Tryz.func76, Tryz.ntmps76
      go_wp2_with fail
      exact bodyPost_ret (results_u rfl _ _ (w.heap.size + 1) 6 a 0 ⟨#[]⟩ ⟨#[]⟩ _ (OpBox.mid _ _ _ _ _ _ _ _ _) rfl rfl) rfl ⟨rfl, below3 _ _ _ _⟩
theorem OpBox.last (w : World) (o o' : Obj) (k a b : Int) (x v : ByteArray) (t : TypeId) : OpBox (((w.alloc o).alloc o').alloc (.cells #[.int .i64 k, .int .i64 a, .int .i64 b, .string x, .string v] t)) (w.heap.size + 1 + 1) k a b x v := by
  have h := OpBox.new ((w.alloc o).alloc o') k a b x v t
  rw [World.size_alloc, World.size_alloc] at h
  exact h
set_option maxRecDepth 100000 in
set_option maxHeartbeats 2000000 in
theorem rused_crash_bad (a b : Int) (x v : ByteArray) (h : ¬ (0 ≤ a ∧ a ≤ 1000000 ∧ (b = 0 ∨ b = 1))) (w : World) :
    Calls Tryz.prog 76 #[opA 7 a b x v] w fun e w' => e = .returned (.tuple #[opA 7 a b ⟨#[]⟩ v, .bool false]) ∧ Below w.heap.size w w' := by
  have HH := Lib.hid h
  clear h
  go_enter Tryz.func76, Tryz.ntmps76
  go_wp2_with fail
  have HM0 := OpBox.mid w (.cells #[.int .i64 7, .int .i64 a, .int .i64 b, .string x, .string v] 28) (.cells #[.int .i64 7, .int .i64 a, .int .i64 b, .string ⟨#[]⟩, .string v] 28) 0 0 0 ⟨#[]⟩ ⟨#[]⟩ 28
  have HL0 := OpBox.last w (.cells #[.int .i64 7, .int .i64 a, .int .i64 b, .string x, .string v] 28) (.cells #[.int .i64 0, .int .i64 0, .int .i64 0, .string ⟨#[]⟩, .string ⟨#[]⟩] 28) 7 a b ⟨#[]⟩ v 28
  have HC0 := below3 w (.cells #[.int .i64 7, .int .i64 a, .int .i64 b, .string x, .string v] 28) (.cells #[.int .i64 0, .int .i64 0, .int .i64 0, .string ⟨#[]⟩, .string ⟨#[]⟩] 28) (.cells #[.int .i64 7, .int .i64 a, .int .i64 b, .string ⟨#[]⟩, .string v] 28)
  generalize (((w.alloc (.cells #[.int .i64 7, .int .i64 a, .int .i64 b, .string x, .string v] 28)).alloc (.cells #[.int .i64 0, .int .i64 0, .int .i64 0, .string ⟨#[]⟩, .string ⟨#[]⟩] 28)).alloc (.cells #[.int .i64 7, .int .i64 a, .int .i64 b, .string ⟨#[]⟩, .string v] 28)) = w0 at *
  refine (rplan_bad 7 a b x v HH.out _).mono ?_
  rintro e w1 ⟨rfl, b1⟩
  have a2 := (Below.refl w1.heap.size w1).alloc (Nat.le_refl _) (.cells #[.int .i64 0, .bool false, .slice none 0 0] 38)
  have HM := Lib.hid ((HM0.below b1).below a2)
  have HL := Lib.hid ((HL0.below b1).below a2)
  have HC := Lib.hid ((HC0.trans (b1.mono HC0.size)).trans (a2.mono (Nat.le_trans HC0.size b1.size)))
  clear HM0 HL0 HC0 a2 b1
  go_upto_region 24 with fail
  generalize (w1.alloc (.cells #[.int .i64 0, .bool false, .slice none 0 0] 38)) = w2 at *
  obtain ⟨⟨u0, u1, u2, u3, u4⟩, uf⟩ := HM.out
  have uf0 := uf 0
  have uf1 := uf 1
  have uf2 := uf 2
  have uf3 := uf 3
  have uf4 := uf 4
  obtain ⟨⟨l0, l1, l2, l3, l4⟩, lf⟩ := HL.out
  clear uf lf
  have HRs := Lib.hid (set5_at HM.out 7 a b ⟨#[]⟩ v)
  have gc := Lib.hid (set5_below HC.out (Nat.le_succ _) (.int .i64 7) (.int .i64 a) (.int .i64 b) (.string ⟨#[]⟩) (.string v))
  go_wp2_with fail
  exact bodyPost_ret (results_u rfl _ _ (w.heap.size + 1) 7 a b ⟨#[]⟩ v _ HRs.out rfl rfl) rfl ⟨rfl, gc.out⟩
set_option maxRecDepth 100000 in
set_option maxHeartbeats 2000000 in
theorem rused_crash_no (a : Int) (x v : ByteArray) (h0 : 0 ≤ a) (h1 : a ≤ 1000000) (hv : v.size ≤ 100000) (T : ByteArray) (hT : T.data.toList = crashL a 0 v.data.toList) (g : Bool) (hg : (pE T == 0) = g) (w : World) :
    Calls Tryz.prog 76 #[opA 7 a 0 x v] w fun e w' => e = .returned (.tuple #[opA 7 a 0 ⟨#[]⟩ v, .bool g]) ∧ Below w.heap.size w w' := by
  have HH := Lib.hid (And.intro h0 (And.intro h1 (And.intro hv hT)))
  obtain ⟨A, hA⟩ : ∃ A, pA T = A := ⟨_, rfl⟩
  obtain ⟨d, hd⟩ : ∃ d, pD T = d := ⟨_, rfl⟩
  obtain ⟨E, hE⟩ : ∃ E, pE T = E := ⟨_, rfl⟩
  rw [hE] at hg
  have HE := Lib.hid (And.intro hA (And.intro hd hE))
  clear h0 h1 hv hT hA hd hE
  go_enter Tryz.func76, Tryz.ntmps76
  go_wp2_with fail
  have HM0 := OpBox.mid w (.cells #[.int .i64 7, .int .i64 a, .int .i64 0, .string x, .string v] 28) (.cells #[.int .i64 7, .int .i64 a, .int .i64 0, .string ⟨#[]⟩, .string v] 28) 0 0 0 ⟨#[]⟩ ⟨#[]⟩ 28
  have HL0 := OpBox.last w (.cells #[.int .i64 7, .int .i64 a, .int .i64 0, .string x, .string v] 28) (.cells #[.int .i64 0, .int .i64 0, .int .i64 0, .string ⟨#[]⟩, .string ⟨#[]⟩] 28) 7 a 0 ⟨#[]⟩ v 28
  have HC0 := below3 w (.cells #[.int .i64 7, .int .i64 a, .int .i64 0, .string x, .string v] 28) (.cells #[.int .i64 0, .int .i64 0, .int .i64 0, .string ⟨#[]⟩, .string ⟨#[]⟩] 28) (.cells #[.int .i64 7, .int .i64 a, .int .i64 0, .string ⟨#[]⟩, .string v] 28)
  generalize (((w.alloc (.cells #[.int .i64 7, .int .i64 a, .int .i64 0, .string x, .string v] 28)).alloc (.cells #[.int .i64 0, .int .i64 0, .int .i64 0, .string ⟨#[]⟩, .string ⟨#[]⟩] 28)).alloc (.cells #[.int .i64 7, .int .i64 a, .int .i64 0, .string ⟨#[]⟩, .string v] 28)) = w0 at *
  refine (rplan_no 7 a x v HH.out.1 HH.out.2.1 HH.out.2.2.1 T HH.out.2.2.2 _).mono ?_
  rw [HE.out.1, HE.out.2.1, HE.out.2.2]
  rintro e w1 ⟨⟨s1, rfl, hn1⟩, b1⟩
  obtain ⟨p1, c1, rfl⟩ := ownsRow_slice hn1
  obtain ⟨n1, hn⟩ : ∃ n1, (pL T).length = n1 := ⟨_, rfl⟩
  rw [hn]
  clear hn1 hn
  have a2 := (Below.refl w1.heap.size w1).alloc (Nat.le_refl _) (.cells #[.int .i64 A, .bool d, .slice p1 n1 c1] 38)
  have HM := Lib.hid ((HM0.below b1).below a2)
  have HL := Lib.hid ((HL0.below b1).below a2)
  have HC := Lib.hid ((HC0.trans (b1.mono HC0.size)).trans (a2.mono (Nat.le_trans HC0.size b1.size)))
  clear HM0 HL0 HC0 a2 b1
  go_upto_region 24 with fail
  generalize (w1.alloc (.cells #[.int .i64 A, .bool d, .slice p1 n1 c1] 38)) = w2 at *
  obtain ⟨⟨u0, u1, u2, u3, u4⟩, uf⟩ := HM.out
  have uf0 := uf 0
  have uf1 := uf 1
  have uf2 := uf 2
  have uf3 := uf 3
  have uf4 := uf 4
  obtain ⟨⟨l0, l1, l2, l3, l4⟩, lf⟩ := HL.out
  clear uf lf
  have HRs := Lib.hid (set5_at HM.out 7 a 0 ⟨#[]⟩ v)
  have gc := Lib.hid (set5_below HC.out (Nat.le_succ _) (.int .i64 7) (.int .i64 a) (.int .i64 0) (.string ⟨#[]⟩) (.string v))
  go_wp2_with fail
  exact bodyPost_ret (results_u rfl _ _ (w.heap.size + 1) 7 a 0 ⟨#[]⟩ v _ HRs.out rfl rfl) rfl ⟨rfl, gc.out⟩
set_option maxRecDepth 100000 in
set_option maxHeartbeats 2000000 in
theorem rused_crash_yes (a : Int) (x v : ByteArray) (h0 : 0 ≤ a) (h1 : a ≤ 1000000) (hv : v.size ≤ 100000) (T : ByteArray) (hT : T.data.toList = crashL a 1 v.data.toList) (g : Bool) (hg : (pE T == 0) = g) (w : World) :
    Calls Tryz.prog 76 #[opA 7 a 1 x v] w fun e w' => e = .returned (.tuple #[opA 7 a 1 ⟨#[]⟩ v, .bool g]) ∧ Below w.heap.size w w' := by
  have HH := Lib.hid (And.intro h0 (And.intro h1 (And.intro hv hT)))
  obtain ⟨A, hA⟩ : ∃ A, pA T = A := ⟨_, rfl⟩
  obtain ⟨d, hd⟩ : ∃ d, pD T = d := ⟨_, rfl⟩
  obtain ⟨E, hE⟩ : ∃ E, pE T = E := ⟨_, rfl⟩
  rw [hE] at hg
  have HE := Lib.hid (And.intro hA (And.intro hd hE))
  clear h0 h1 hv hT hA hd hE
  go_enter Tryz.func76, Tryz.ntmps76
  go_wp2_with fail
  have HM0 := OpBox.mid w (.cells #[.int .i64 7, .int .i64 a, .int .i64 1, .string x, .string v] 28) (.cells #[.int .i64 7, .int .i64 a, .int .i64 1, .string ⟨#[]⟩, .string v] 28) 0 0 0 ⟨#[]⟩ ⟨#[]⟩ 28
  have HL0 := OpBox.last w (.cells #[.int .i64 7, .int .i64 a, .int .i64 1, .string x, .string v] 28) (.cells #[.int .i64 0, .int .i64 0, .int .i64 0, .string ⟨#[]⟩, .string ⟨#[]⟩] 28) 7 a 1 ⟨#[]⟩ v 28
  have HC0 := below3 w (.cells #[.int .i64 7, .int .i64 a, .int .i64 1, .string x, .string v] 28) (.cells #[.int .i64 0, .int .i64 0, .int .i64 0, .string ⟨#[]⟩, .string ⟨#[]⟩] 28) (.cells #[.int .i64 7, .int .i64 a, .int .i64 1, .string ⟨#[]⟩, .string v] 28)
  generalize (((w.alloc (.cells #[.int .i64 7, .int .i64 a, .int .i64 1, .string x, .string v] 28)).alloc (.cells #[.int .i64 0, .int .i64 0, .int .i64 0, .string ⟨#[]⟩, .string ⟨#[]⟩] 28)).alloc (.cells #[.int .i64 7, .int .i64 a, .int .i64 1, .string ⟨#[]⟩, .string v] 28)) = w0 at *
  refine (rplan_yes 7 a x v HH.out.1 HH.out.2.1 HH.out.2.2.1 T HH.out.2.2.2 _).mono ?_
  rw [HE.out.1, HE.out.2.1, HE.out.2.2]
  rintro e w1 ⟨⟨s1, rfl, hn1⟩, b1⟩
  obtain ⟨p1, c1, rfl⟩ := ownsRow_slice hn1
  obtain ⟨n1, hn⟩ : ∃ n1, (pL T).length = n1 := ⟨_, rfl⟩
  rw [hn]
  clear hn1 hn
  have a2 := (Below.refl w1.heap.size w1).alloc (Nat.le_refl _) (.cells #[.int .i64 A, .bool d, .slice p1 n1 c1] 38)
  have HM := Lib.hid ((HM0.below b1).below a2)
  have HL := Lib.hid ((HL0.below b1).below a2)
  have HC := Lib.hid ((HC0.trans (b1.mono HC0.size)).trans (a2.mono (Nat.le_trans HC0.size b1.size)))
  clear HM0 HL0 HC0 a2 b1
  go_upto_region 24 with fail
  generalize (w1.alloc (.cells #[.int .i64 A, .bool d, .slice p1 n1 c1] 38)) = w2 at *
  obtain ⟨⟨u0, u1, u2, u3, u4⟩, uf⟩ := HM.out
  have uf0 := uf 0
  have uf1 := uf 1
  have uf2 := uf 2
  have uf3 := uf 3
  have uf4 := uf 4
  obtain ⟨⟨l0, l1, l2, l3, l4⟩, lf⟩ := HL.out
  clear uf lf
  have HRs := Lib.hid (set5_at HM.out 7 a 1 ⟨#[]⟩ v)
  have gc := Lib.hid (set5_below HC.out (Nat.le_succ _) (.int .i64 7) (.int .i64 a) (.int .i64 1) (.string ⟨#[]⟩) (.string v))
  go_wp2_with fail
  exact bodyPost_ret (results_u rfl _ _ (w.heap.size + 1) 7 a 1 ⟨#[]⟩ v _ HRs.out rfl rfl) rfl ⟨rfl, gc.out⟩
end Go.Proofs.YtlmbcclggaflaaaGreatDoor
namespace Go.Proofs.YtlmbcclggaflaaaGreatDoor
open Go Go.RowKit

theorem vrdigit_any (c : Int) (w : World) (h0 : 0 ≤ c) (h1 : c < 256) :
    Calls Tryz.prog 102 #[.int .u8 c] w fun e w' => e = .returned (.int .i64 (nib c)) ∧ w' = w := by
  rcases (show c < 48 ∨ (48 ≤ c ∧ c ≤ 57) ∨ (57 < c ∧ c < 97) ∨ (97 ≤ c ∧ c ≤ 102) ∨ 102 < c by omega) with h | ⟨h, h'⟩ | ⟨h, h'⟩ | ⟨h, h'⟩ | h
  all_goals
    go_enter Tryz.func102, Tryz.ntmps102
    go_wp2
    go_ret
    exact ⟨ret_int (by unfold nib; repeat (first | split | omega)), rfl⟩

set_option maxRecDepth 100000 in
set_option maxHeartbeats 1000000 in
theorem vrhex_any (s : ByteArray) (w : World) (hl : s.size ≤ 35184372088832) :
    Calls Tryz.prog 105 #[.string s] w fun e w' => e = .returned (.string ⟨(hexL s.data.toList).toArray⟩) ∧ Below w.heap.size w w' := by
  obtain ⟨i0, hi, hz0, hz1, hz2⟩ := info_parts infoU8
  have HL := Lib.hid (str_len s)
  go_enter Tryz.func105, Tryz.ntmps105
  go_wp2_with fail
  go_loopw [3, 4] (fun vo vi wr => ∃ k : Nat, k ≤ s.size ∧ vi = .int .i64 k ∧ Hid (wr.ownsRow w.heap.size 5 1 vo (hexL (s.data.toList.take k)).length (Lib.byteCells (hexL (s.data.toList.take k)))) ∧ Below w.heap.size w wr) (fun _ vi _ => s.size - (intOf vi).toNat)
  case atStart => exact ⟨0, Nat.zero_le _, rfl, Lib.hid (World.ownsRow_nil _ _ _ _), Below.refl _ _⟩
  case round =>
    obtain ⟨k, hk, rfl, hr, hbr⟩ := hrel
    by_cases hlt : k < s.size
    · obtain ⟨x, hx⟩ : ∃ x : UInt8, x = s.data.toList.getD k 0 := ⟨_, rfl⟩
      have hix := run_str_at (P := Tryz.prog) s 9 Tryz.underlying9 .i64 (k : Int) k rfl hlt x hx
      have HX := Lib.hid hx
      clear hx
      have hx8 : x.toNat < 256 := x.toNat_lt
      have i1 := run_digit .u8 ((x.toNat : Int) / 16) (by omega) (by omega)
      have i2 := run_digit .u8 ((x.toNat : Int) % 16) (by omega) (by omega)
      have hnle : (hexL (s.data.toList.take k)).length ≤ 2 * k := by rw [hexL_length, List.length_take]; omega
      have hq1 : IntKind.u8.wrap ((x.toNat : Int) / 16) = (x.toNat : Int) / 16 := by rw [IntKind.wrap_u8]; omega
      have hq2 : IntKind.u8.wrap ((x.toNat : Int) % 16) = (x.toNat : Int) % 16 := by rw [IntKind.wrap_u8]; omega
      have hq3 : (x.toNat : Int).tmod 16 = (x.toNat : Int) % 16 := Int.tmod_eq_emod_of_nonneg (by omega)
      go_wp2_with fail
      go_region_law (refine step_append_lies _ rfl (.tmp 11) (.tmp 22) 23 rfl w.heap.size 5 i0 (.int .u8 0) 1 1 Tryz.underlying23 hi hz0 hz1 hz2 rfl (by decide) u3 _ _ rfl ((hr.out.alloc _).drew) ⟨wr.heap.size, 0, none⟩ 2 2 [.int .u8 ((hexD ((x.toNat : Int) / 16).toNat).toNat : Int), .int .u8 ((hexD ((x.toNat : Int) % 16).toNat).toNat : Int)] rfl rfl (World.news_of_block (cs := #[.int .u8 ((hexD ((x.toNat : Int) / 16).toNat).toNat : Int), .int .u8 ((hexD ((x.toNat : Int) % 16).toNat).toNat : Int)]) (t := 5) (fr := (0, 0)) (heap_alloc_new wr _)) (by intro u hu; simp at hu; rcases hu with rfl | rfl <;> rfl) (by decide) (by unfold maxLen; omega) (by omega) (by have := hbr.size; simp; omega) _ rfl ?_; intro g cap w2 hown2 hgrow2 hgc hlt2)
      all_goals
        go_wp2_with fail
        go_roundw
        case rel => exact ⟨k + 1, by omega, by go_num, Lib.hid (owns_hex (by rw [HL.out]; exact hlt) HX.out hown2), ((hbr.alloc hbr.size _).drew).grown hgrow2 (by have := hbr.size; simp; omega) (fun j hj => (hr.out.lt j hj).1)⟩
        case measure => simp [intOf]; omega
    · have hkl : s.data.toList.take k = s.data.toList := List.take_of_length_le (by rw [HL.out]; omega)
      have hcv := fun (wx : World) (hx : BytesAt wx u3 (hexL (s.data.toList.take k))) => hx.convert (P := Tryz.prog) 23 9 5 Tryz.underlying23 Tryz.underlying5 Tryz.underlying9
      rw [hkl] at hcv
      have hr2 := hr.out
      rw [hkl] at hr2
      have hcv2 := hcv wr (BytesAt.of_owns hr2)
      clear hcv hr2 hkl
      go_wp2_with fail
      go_ret
      exact ⟨rfl, hbr⟩

theorem vrtext_any (s : ByteArray) (w : World) :
    Calls Tryz.prog 74 #[.string s] w fun e w' => e = .returned (.tuple #[.string ⟨(textV s.data.toList).1.toArray⟩, .int .i64 (textV s.data.toList).2]) ∧ Below w.heap.size w w' := by
  by_cases h1 : 512 < s.size
  · have HT := Lib.hid (textV_large h1)
    go_enter Tryz.func74, Tryz.ntmps74
    go_wp2_with fail
    go_ret2
    exact ⟨by rw [HT.out]; rfl, Below.refl _ _⟩
  · by_cases h3 : s.size = 0
    · have h4 := isEmpty_true h3
      have HT := Lib.hid (textV_none h3)
      clear h3
      go_enter Tryz.func74, Tryz.ntmps74
      go_wp2_with fail
      go_ret2
      exact ⟨by rw [HT.out]; rfl, Below.refl _ _⟩
    · have h4 := isEmpty_false h3
      have HT := Lib.hid (textV_some h1 h3)
      clear h3
      go_enter Tryz.func74, Tryz.ntmps74
      go_wp2_with (go_at_call 105; refine (vrhex_any s _ (by omega)).mono ?_; rintro e w2 ⟨rfl, hb2⟩)
      go_ret2
      exact ⟨by rw [HT.out]; rfl, hb2⟩

set_option maxRecDepth 100000 in
set_option maxHeartbeats 2000000 in
theorem vrparse_any (s : ByteArray) (w : World) (hl : s.size ≤ 35184372088832) :
    Calls Tryz.prog 72 #[.string s] w fun e w' => e = .returned (.tuple #[.string ⟨(parseV s.data.toList).1.toArray⟩, .int .i64 (parseV s.data.toList).2]) ∧ Below w.heap.size w w' := by
  obtain ⟨i0, hi, hz0, hz1, hz2⟩ := info_parts infoU8
  have HL := Lib.hid (str_len s)
  by_cases h1 : s.data.toList = [45]
  · have h2 := is_true h1
    have HT := Lib.hid (parseV_dash h1)
    clear h1
    go_enter Tryz.func72, Tryz.ntmps72
    go_wp2_with fail
    go_ret2
    exact ⟨by rw [HT.out]; rfl, Below.refl _ _⟩
  · have h2 := is_false h1
    have H1 := Lib.hid h1; clear h1
    by_cases h3 : s.size = 0
    · have h4 : (s.size == 0) = true := by simp [h3]
      have h5 : ((s.size : Int) == 0) = true := by simp [h3]
      have HT := Lib.hid (parseV_empty (l := s.data.toList) (by rw [str_len]; exact h3))
      clear h3
      go_enter Tryz.func72, Tryz.ntmps72
      go_wp2_with fail
      go_ret2
      exact ⟨by rw [HT.out]; rfl, Below.refl _ _⟩
    · have h4 : (s.size == 0) = false := by simp [h3]
      have h5 : ((s.size : Int) == 0) = false := by rw [beq_eq_false_iff_ne]; omega
      have H3 : Hid (¬ s.data.toList.length = 0) := by show ¬ _; rw [str_len]; exact h3
      clear h3
      by_cases hodd : s.size % 2 = 1
      · have HT := Lib.hid (parseV_bad H1.out H3.out (unhex_odd _ (by rw [str_len]; exact hodd)))
        have h6 : ((s.size : Int) % 2 == 1) = true := by rw [beq_iff_eq]; omega
        clear hodd
        go_enter Tryz.func72, Tryz.ntmps72
        go_wp2_with fail
        go_ret2
        exact ⟨by rw [HT.out]; rfl, Below.refl _ _⟩
      · have h6 : ((s.size : Int) % 2 == 1) = false := by rw [beq_eq_false_iff_ne]; omega
        have HE : Hid (s.size % 2 = 0) := by show s.size % 2 = 0; omega
        clear hodd
        go_enter Tryz.func72, Tryz.ntmps72
        go_wp2_with fail
        go_loopw [4, 5] (fun vo vi wr => ∃ (j : Nat) (acc : List UInt8), j ≤ s.size ∧ vi = .int .i64 j ∧ Hid (j % 2 = 0) ∧ Hid (unhex (s.data.toList.take j) = some acc) ∧ Hid (wr.ownsRow w.heap.size 5 1 vo acc.length (Lib.byteCells acc)) ∧ Below w.heap.size w wr) (fun _ vi _ => s.size - (intOf vi).toNat)
        case atStart => exact ⟨0, [], Nat.zero_le _, rfl, rfl, rfl, Lib.hid (World.ownsRow_nil _ _ _ _), Below.refl _ _⟩
        case round =>
          obtain ⟨j, acc, hj, rfl, hj2, hacc, hr, hbr⟩ := hrel
          by_cases hlt : j < s.size
          · have hlt2 : j + 1 < s.size := by have := hj2.out; have := HE.out; omega
            obtain ⟨x, hx⟩ : ∃ x : UInt8, x = s.data.toList.getD j 0 := ⟨_, rfl⟩
            obtain ⟨y, hy⟩ : ∃ y : UInt8, y = s.data.toList.getD (j + 1) 0 := ⟨_, rfl⟩
            have ix := run_str_at (P := Tryz.prog) s 9 Tryz.underlying9 .i64 (j : Int) j rfl hlt x hx
            have iy := run_str_at (P := Tryz.prog) s 9 Tryz.underlying9 .i64 ((j : Int) + 1) (j + 1) rfl hlt2 y hy
            have HX := Lib.hid hx
            have HY := Lib.hid hy
            clear hx hy
            have hx8 : x.toNat < 256 := x.toNat_lt
            have hy8 : y.toNat < 256 := y.toNat_lt
            have hxr := nib_range (x.toNat : Int)
            have hyr := nib_range (y.toNat : Int)
            by_cases hbad : nib (x.toNat : Int) < 0 ∨ nib (y.toNat : Int) < 0
            · have hstop := unhex_stopj _ j hj2.out (by rw [HL.out]; exact hlt2) (by rw [← HX.out, ← HY.out]; exact pairBad_true hbad)
              have HT := Lib.hid (parseV_bad H1.out H3.out hstop)
              clear hstop hacc hr HX HY
              by_cases hxa : nib (x.toNat : Int) < 0
              all_goals
                go_wp2_with (go_at_call 102; refine (keeps (vrdigit_any _ _ (by omega) (by omega))).mono ?_; rintro e w' ⟨rfl, rfl⟩)
                go_ret2
                exact ⟨by rw [HT.out]; rfl, hbr⟩
            · have hxa : 0 ≤ nib (x.toNat : Int) := by omega
              have hya : 0 ≤ nib (y.toNat : Int) := by omega
              clear hbad
              have hp8 : (pairByte x y).toNat < 256 := (pairByte x y).toNat_lt
              have hor : 16 * nib (x.toNat : Int) + nib (y.toNat : Int) = ((pairByte x y).toNat : Int) := (pairByte_toNat (by omega) (by omega) (by omega) (by omega)).symm
              have hst : Hid (unhex (s.data.toList.take (j + 2)) = some (acc ++ [pairByte x y])) := by
                have := unhex_stepj _ acc j hj2.out (by rw [HL.out]; exact hlt2) hacc.out (by rw [← HX.out, ← HY.out]; exact pairBad_false (by omega) (by omega))
                rw [← HX.out, ← HY.out] at this
                exact this
              have hal : acc.length ≤ s.size := by
                have := unhex_length _ _ hacc.out
                rw [List.length_take] at this
                have := HL.out
                omega
              clear HX HY hacc
              go_wp2_with (first | (go_at_call 102; refine (keeps (vrdigit_any _ _ (by omega) (by omega))).mono ?_; rintro e w' ⟨rfl, rfl⟩) | (at_builtin; refine wpList_append_lies _ rfl (.tmp 40) (.tmp 46) 23 rfl w.heap.size 5 i0 (.int .u8 0) 1 1 Tryz.underlying23 hi hz0 hz1 hz2 rfl (by decide) u4 acc.length (Lib.byteCells acc) rfl (World.ownsRow.alloc hr.out _) ⟨wr.heap.size, 0, none⟩ 1 1 [.int .u8 ((pairByte x y).toNat : Int)] rfl rfl (World.news_of_block (cs := #[.int .u8 ((pairByte x y).toNat : Int)]) (t := 5) (fr := (0, 0)) (heap_alloc_new wr _)) (fun u hu => by simp at hu; subst hu; rfl) (by decide) (by unfold maxLen; omega) (by omega) (by have := hbr.size; simp; omega) _ rfl ?_))
              intro g cap w2 hown2 hgrow2 hgc hlt3
              go_wp2_with fail
              go_roundw
              case rel => exact ⟨j + 2, acc ++ [pairByte x y], by omega, by go_num, by have := hj2.out; show (j + 2) % 2 = 0; omega, hst, Lib.hid (owns_snoc hown2), (hbr.alloc hbr.size _).grown hgrow2 (by have := hbr.size; simp; omega) (fun i hi => (hr.out.lt i hi).1)⟩
              case measure => simp [intOf]; omega
          · have hjs : s.data.toList.take j = s.data.toList := List.take_of_length_le (by have := HL.out; omega)
            have ha2 := hacc.out
            rw [hjs] at ha2
            have hbt := BytesAt.of_owns hr.out
            have hcv := hbt.convert (P := Tryz.prog) 23 9 5 Tryz.underlying23 Tryz.underlying5 Tryz.underlying9
            obtain ⟨p, c, hv, hc, _⟩ := hbt
            subst hv
            by_cases h7 : 512 < acc.length
            · have HT := Lib.hid (parseV_large H1.out H3.out ha2 h7)
              clear hjs ha2 hacc hr
              go_wp2_with fail
              go_ret2
              exact ⟨by rw [HT.out]; rfl, hbr⟩
            · have HT := Lib.hid (parseV_ok H1.out H3.out ha2 h7)
              clear hjs ha2 hacc hr
              go_wp2_with fail
              go_ret2
              exact ⟨by rw [HT.out]; rfl, hbr⟩
end Go.Proofs.YtlmbcclggaflaaaGreatDoor
namespace Go.Proofs.YtlmbcclggaflaaaGreatDoor
open Go Go.RowKit

set_option maxRecDepth 100000 in
set_option maxHeartbeats 2000000 in
theorem rcheck_of (k a b : Int) (x v : ByteArray) (k' a' b' : Int) (x' v' : ByteArray) (g : Bool)
    (hU : ∀ w, Calls Tryz.prog 76 #[opA k a b x v] w fun e w' => e = .returned (.tuple #[opA k' a' b' x' v', .bool g]) ∧ Below w.heap.size w w')
    (hG : opGood ⟨k, a, b, x, v⟩ ↔ g = true ∧ (⟨k', a', b', x', v'⟩ : OpD) = ⟨k, a, b, x, v⟩) (w : World) :
    Calls Tryz.prog 34 #[opA k a b x v] w fun e w' => e = .returned (.int .i64 (prE ⟨k, a, b, x, v⟩)) ∧ Below w.heap.size w w' := by
  obtain ⟨r, hr⟩ : ∃ r, decide ((⟨k', a', b', x', v'⟩ : OpD) = ⟨k, a, b, x, v⟩) = r := ⟨_, rfl⟩
  have hne : ∀ w, (binOp .neq 28 (opA k' a' b' x' v') (opA k a b x v)).run Tryz.prog w = .ok (.bool (!r)) w := op_neq ⟨k', a', b', x', v'⟩ ⟨k, a, b, x, v⟩ r hr
  have HG : Hid (opGood ⟨k, a, b, x, v⟩ ↔ g = true ∧ r = true) := by
    show _ ↔ _
    rw [hG, ← hr, decide_eq_true_iff]
  have HU := Lib.hid hU
  clear hr hG hU
  go_enter Tryz.func34, Tryz.ntmps34
  go_wp2_with fail
  have c0 : Below w.heap.size w (w.alloc (.cells #[.int .i64 k, .int .i64 a, .int .i64 b, .string x, .string v] 28)) := (Below.refl _ _).alloc (Nat.le_refl _) _
  have H0 := Lib.hid (OpBox.new w k a b x v 28)
  generalize (w.alloc (.cells #[.int .i64 k, .int .i64 a, .int .i64 b, .string x, .string v] 28)) = w0 at *
  refine (HU.out _).mono ?_
  rintro e w1 ⟨rfl, b1⟩
  have a2 := (Below.refl w1.heap.size w1).alloc (Nat.le_refl _) (.cells #[.int .i64 k', .int .i64 a', .int .i64 b', .string x', .string v'] 28)
  have H1 := Lib.hid ((H0.out.below b1).below a2)
  have c1 := (c0.trans (b1.mono c0.size)).trans (a2.mono (Nat.le_trans c0.size b1.size))
  have H2 := Lib.hid (OpBox.new w1 k' a' b' x' v' 28)
  clear a2 b1 c0 H0
  go_upto_region 2 with fail
  generalize (w1.alloc (.cells #[.int .i64 k', .int .i64 a', .int .i64 b', .string x', .string v'] 28)) = w2 at *
  obtain ⟨B2, hB2⟩ : ∃ B2, w1.heap.size = B2 := ⟨_, rfl⟩
  rw [hB2] at H2
  rw [hB2]
  clear hB2
  obtain ⟨⟨p0, p1, p2, p3, p4⟩, pf⟩ := H1.out
  obtain ⟨⟨q0, q1, q2, q3, q4⟩, qf⟩ := H2.out
  clear pf qf
  cases g with
  | false =>
    have HB : Hid (prE ⟨k, a, b, x, v⟩ = 2) := (pr_bad fun h => by cases (HG.out.1 h).1).2
    go_wp2_with fail
    go_ret
    exact ⟨by rw [HB.out]; rfl, c1⟩
  | true =>
    cases r with
    | false =>
      have HB : Hid (prE ⟨k, a, b, x, v⟩ = 2) := (pr_bad fun h => by cases (HG.out.1 h).2).2
      go_wp2_with fail
      go_ret
      exact ⟨by rw [HB.out]; rfl, c1⟩
    | true =>
      have HB : Hid (prE ⟨k, a, b, x, v⟩ = 0) := (pr_good (HG.out.2 ⟨rfl, rfl⟩)).2
      go_wp2_with fail
      go_ret
      exact ⟨by rw [HB.out]; rfl, c1⟩
theorem eq_mk (k a b : Int) (x v : ByteArray) (k' a' b' : Int) (x' v' : ByteArray) : (⟨k', a', b', x', v'⟩ : OpD) = ⟨k, a, b, x, v⟩ ↔ k' = k ∧ a' = a ∧ b' = b ∧ x' = x ∧ v' = v := by
  constructor
  · intro h
    injection h with h1 h2 h3 h4 h5
    exact ⟨h1, h2, h3, h4, h5⟩
  · rintro ⟨rfl, rfl, rfl, rfl, rfl⟩
    rfl
theorem rcheck_put (a b : Int) (x v : ByteArray) (hx : x.size ≤ 100000) (w : World) :
    Calls Tryz.prog 34 #[opA 1 a b x v] w fun e w' => e = .returned (.int .i64 (prE ⟨1, a, b, x, v⟩)) ∧ Below w.heap.size w w' := by
  refine rcheck_of 1 a b x v 1 0 0 x v _ (rused_put a b x v hx) ?_ w
  rw [good1 rfl, eq_mk, Bool.and_eq_true, beq_iff_eq, decide_eq_true_iff]
  constructor
  · rintro ⟨h1, h2, h3, h4⟩
    exact ⟨⟨h3, h4⟩, rfl, h1.symm, h2.symm, rfl, rfl⟩
  · rintro ⟨⟨h3, h4⟩, _, h1, h2, _⟩
    exact ⟨h1.symm, h2.symm, h3, h4⟩
theorem rcheck_get (a b : Int) (x v : ByteArray) (hx : x.size ≤ 100000) (w : World) :
    Calls Tryz.prog 34 #[opA 2 a b x v] w fun e w' => e = .returned (.int .i64 (prE ⟨2, a, b, x, v⟩)) ∧ Below w.heap.size w w' := by
  refine rcheck_of 2 a b x v 2 0 0 x ⟨#[]⟩ _ (rused_get a b x v hx) ?_ w
  rw [good2 (o := ⟨2, a, b, x, v⟩) (by show (2 : Int) = 2 ∨ (2 : Int) = 3; decide), eq_mk, beq_iff_eq]
  constructor
  · rintro ⟨h1, h2, h3, h4⟩
    exact ⟨h3, rfl, h1.symm, h2.symm, rfl, h4.symm⟩
  · rintro ⟨h3, _, h1, h2, _, h4⟩
    exact ⟨h1.symm, h2.symm, h3, h4.symm⟩
theorem rcheck_delete (a b : Int) (x v : ByteArray) (hx : x.size ≤ 100000) (w : World) :
    Calls Tryz.prog 34 #[opA 3 a b x v] w fun e w' => e = .returned (.int .i64 (prE ⟨3, a, b, x, v⟩)) ∧ Below w.heap.size w w' := by
  refine rcheck_of 3 a b x v 3 0 0 x ⟨#[]⟩ _ (rused_delete a b x v hx) ?_ w
  rw [good2 (o := ⟨3, a, b, x, v⟩) (by show (3 : Int) = 2 ∨ (3 : Int) = 3; decide), eq_mk, beq_iff_eq]
  constructor
  · rintro ⟨h1, h2, h3, h4⟩
    exact ⟨h3, rfl, h1.symm, h2.symm, rfl, h4.symm⟩
  · rintro ⟨h3, _, h1, h2, _, h4⟩
    exact ⟨h1.symm, h2.symm, h3, h4.symm⟩
theorem rcheck_sync (a b : Int) (x v : ByteArray) (w : World) :
    Calls Tryz.prog 34 #[opA 4 a b x v] w fun e w' => e = .returned (.int .i64 (prE ⟨4, a, b, x, v⟩)) ∧ Below w.heap.size w w' := by
  refine rcheck_of 4 a b x v 4 0 0 ⟨#[]⟩ ⟨#[]⟩ _ (rused_sync a b x v) ?_ w
  rw [good4 (o := ⟨4, a, b, x, v⟩) (by show (4 : Int) = 4 ∨ (4 : Int) = 5 ∨ (4 : Int) = 8; decide), eq_mk]
  constructor
  · rintro ⟨h1, h2, h3, h4⟩
    exact ⟨rfl, rfl, h1.symm, h2.symm, h3.symm, h4.symm⟩
  · rintro ⟨_, _, h1, h2, h3, h4⟩
    exact ⟨h1.symm, h2.symm, h3.symm, h4.symm⟩
theorem rcheck_step (a b : Int) (x v : ByteArray) (w : World) :
    Calls Tryz.prog 34 #[opA 5 a b x v] w fun e w' => e = .returned (.int .i64 (prE ⟨5, a, b, x, v⟩)) ∧ Below w.heap.size w w' := by
  refine rcheck_of 5 a b x v 5 0 0 ⟨#[]⟩ ⟨#[]⟩ _ (rused_step a b x v) ?_ w
  rw [good4 (o := ⟨5, a, b, x, v⟩) (by show (5 : Int) = 4 ∨ (5 : Int) = 5 ∨ (5 : Int) = 8; decide), eq_mk]
  constructor
  · rintro ⟨h1, h2, h3, h4⟩
    exact ⟨rfl, rfl, h1.symm, h2.symm, h3.symm, h4.symm⟩
  · rintro ⟨_, _, h1, h2, h3, h4⟩
    exact ⟨h1.symm, h2.symm, h3.symm, h4.symm⟩
theorem rcheck_reopen (a b : Int) (x v : ByteArray) (w : World) :
    Calls Tryz.prog 34 #[opA 8 a b x v] w fun e w' => e = .returned (.int .i64 (prE ⟨8, a, b, x, v⟩)) ∧ Below w.heap.size w w' := by
  refine rcheck_of 8 a b x v 8 0 0 ⟨#[]⟩ ⟨#[]⟩ _ (rused_reopen a b x v) ?_ w
  rw [good4 (o := ⟨8, a, b, x, v⟩) (by show (8 : Int) = 4 ∨ (8 : Int) = 5 ∨ (8 : Int) = 8; decide), eq_mk]
  constructor
  · rintro ⟨h1, h2, h3, h4⟩
    exact ⟨rfl, rfl, h1.symm, h2.symm, h3.symm, h4.symm⟩
  · rintro ⟨_, _, h1, h2, h3, h4⟩
    exact ⟨h1.symm, h2.symm, h3.symm, h4.symm⟩
theorem rcheck_bad39 (k a b : Int) (x v : ByteArray) (hk : k < 1 ∨ 8 < k) (w : World) :
    Calls Tryz.prog 34 #[opA k a b x v] w fun e w' => e = .returned (.int .i64 (prE ⟨k, a, b, x, v⟩)) ∧ Below w.heap.size w w' := by
  refine rcheck_of k a b x v k 0 0 ⟨#[]⟩ ⟨#[]⟩ _ (rused_bad k a b x v hk) ?_ w
  constructor
  · intro h
    exact absurd h (good0 hk)
  · rintro ⟨h, _⟩
    cases h
theorem rcheck_policy (a b : Int) (x v : ByteArray) (w : World) :
    Calls Tryz.prog 34 #[opA 6 a b x v] w fun e w' => e = .returned (.int .i64 (prE ⟨6, a, b, x, v⟩)) ∧ Below w.heap.size w w' := by
  refine rcheck_of 6 a b x v 6 a 0 ⟨#[]⟩ ⟨#[]⟩ _ (rused_policy a b x v) ?_ w
  rw [good6 rfl, eq_mk, decide_eq_true_iff]
  constructor
  · rintro ⟨h1, h2, h3, h4⟩
    exact ⟨h1, rfl, rfl, h2.symm, h3.symm, h4.symm⟩
  · rintro ⟨h1, _, _, h2, h3, h4⟩
    exact ⟨h1, h2.symm, h3.symm, h4.symm⟩
theorem good7_iff (a b : Int) (x v T : ByteArray) (h0 : 0 ≤ a) (hb : b = 0 ∨ b = 1) (hT : T.data.toList = crashL a b v.data.toList) : opGood ⟨7, a, b, x, v⟩ ↔ x = eB ∧ goodP T :=
  good7 (o := ⟨7, a, b, x, v⟩) rfl hb (by rw [crashI_pos (a := a) h0]; exact hT)
theorem rcheck_crash_no (a : Int) (x v : ByteArray) (h0 : 0 ≤ a) (h1 : a ≤ 1000000) (hv : v.size ≤ 100000) (w : World) :
    Calls Tryz.prog 34 #[opA 7 a 0 x v] w fun e w' => e = .returned (.int .i64 (prE ⟨7, a, 0, x, v⟩)) ∧ Below w.heap.size w w' := by
  have hT : (pack (crashL a 0 v.data.toList)).data.toList = crashL a 0 v.data.toList := pack_data _
  refine rcheck_of 7 a 0 x v 7 a 0 ⟨#[]⟩ v _ (rused_crash_no a x v h0 h1 hv _ hT _ rfl) ?_ w
  rw [good7_iff a 0 x v _ h0 (by decide) hT, eq_mk, pE_zero]
  constructor
  · rintro ⟨h2, h3⟩
    exact ⟨h3, rfl, rfl, rfl, h2.symm, rfl⟩
  · rintro ⟨h3, _, _, _, h2, _⟩
    exact ⟨h2.symm, h3⟩
theorem rcheck_crash_yes (a : Int) (x v : ByteArray) (h0 : 0 ≤ a) (h1 : a ≤ 1000000) (hv : v.size ≤ 100000) (w : World) :
    Calls Tryz.prog 34 #[opA 7 a 1 x v] w fun e w' => e = .returned (.int .i64 (prE ⟨7, a, 1, x, v⟩)) ∧ Below w.heap.size w w' := by
  have hT : (pack (crashL a 1 v.data.toList)).data.toList = crashL a 1 v.data.toList := pack_data _
  refine rcheck_of 7 a 1 x v 7 a 1 ⟨#[]⟩ v _ (rused_crash_yes a x v h0 h1 hv _ hT _ rfl) ?_ w
  rw [good7_iff a 1 x v _ h0 (by decide) hT, eq_mk, pE_zero]
  constructor
  · rintro ⟨h2, h3⟩
    exact ⟨h3, rfl, rfl, rfl, h2.symm, rfl⟩
  · rintro ⟨h3, _, _, _, h2, _⟩
    exact ⟨h2.symm, h3⟩
theorem good7_range {o : OpD} (hk : o.kind = 7) (h : opGood o) : 0 ≤ o.a ∧ o.a ≤ 1000000 ∧ (o.b = 0 ∨ o.b = 1) := by
  rcases h with ⟨h2, _⟩ | ⟨h2, _⟩ | ⟨h2, _⟩ | ⟨h2, _⟩ | ⟨_, h2, _, L, h3, _⟩
  · omega
  · omega
  · omega
  · omega
  · have := planOK_parts h3
    exact ⟨this.1, this.2.1, h2⟩
theorem rcheck_crash_bad (a b : Int) (x v : ByteArray) (h : ¬ (0 ≤ a ∧ a ≤ 1000000 ∧ (b = 0 ∨ b = 1))) (w : World) :
    Calls Tryz.prog 34 #[opA 7 a b x v] w fun e w' => e = .returned (.int .i64 (prE ⟨7, a, b, x, v⟩)) ∧ Below w.heap.size w w' := by
  refine rcheck_of 7 a b x v 7 a b ⟨#[]⟩ v _ (rused_crash_bad a b x v h) ?_ w
  constructor
  · intro hg
    exact absurd (good7_range (o := ⟨7, a, b, x, v⟩) rfl hg) h
  · rintro ⟨h2, _⟩
    cases h2
theorem rcheck39_any (k a b : Int) (x v : ByteArray) (hx : x.size ≤ 100000) (hv : v.size ≤ 100000) (w : World) :
    Calls Tryz.prog 34 #[opA k a b x v] w fun e w' => e = .returned (.int .i64 (prE ⟨k, a, b, x, v⟩)) ∧ Below w.heap.size w w' := by
  by_cases hk : k < 1 ∨ 8 < k
  · exact rcheck_bad39 k a b x v hk w
  · rcases (show k = 1 ∨ k = 2 ∨ k = 3 ∨ k = 4 ∨ k = 5 ∨ k = 6 ∨ k = 7 ∨ k = 8 by omega) with rfl | rfl | rfl | rfl | rfl | rfl | rfl | rfl
    · exact rcheck_put a b x v hx w
    · exact rcheck_get a b x v hx w
    · exact rcheck_delete a b x v hx w
    · exact rcheck_sync a b x v w
    · exact rcheck_step a b x v w
    · exact rcheck_policy a b x v w
    · by_cases h : 0 ≤ a ∧ a ≤ 1000000 ∧ (b = 0 ∨ b = 1)
      · obtain ⟨h0, h1, h2⟩ := h
        rcases h2 with rfl | rfl
        · exact rcheck_crash_no a x v h0 h1 hv w
        · exact rcheck_crash_yes a x v h0 h1 hv w
      · exact rcheck_crash_bad a b x v h w
    · exact rcheck_reopen a b x v w
end Go.Proofs.YtlmbcclggaflaaaGreatDoor
namespace Go.Proofs.YtlmbcclggaflaaaGreatDoor
open Go Go.RowKit

set_option maxRecDepth 100000 in
set_option maxHeartbeats 2000000 in
theorem rprint_bad (k a b : Int) (x v : ByteArray) (hx : x.size ≤ 100000) (hv : v.size ≤ 100000) (h : ¬ opGood ⟨k, a, b, x, v⟩) (w : World) :
    Calls Tryz.prog 32 #[opA k a b x v] w fun e w' => e = .returned (.tuple #[.string (prT ⟨k, a, b, x, v⟩), .int .i64 (prE ⟨k, a, b, x, v⟩)]) ∧ Below w.heap.size w w' := by
  have HB : Hid (prT ⟨k, a, b, x, v⟩ = ⟨#[]⟩ ∧ prE ⟨k, a, b, x, v⟩ = 2) := pr_bad h
  have HX := Lib.hid (And.intro hx hv)
  clear hx hv h
  go_enter Tryz.func32, Tryz.ntmps32
  go_wp2_with fail
  have c0 : Below w.heap.size w (w.alloc (.cells #[.int .i64 k, .int .i64 a, .int .i64 b, .string x, .string v] 28)) := (Below.refl _ _).alloc (Nat.le_refl _) _
  have H0 := Lib.hid (OpBox.new w k a b x v 28)
  generalize (w.alloc (.cells #[.int .i64 k, .int .i64 a, .int .i64 b, .string x, .string v] 28)) = w0 at *
  refine (rcheck39_any k a b x v HX.out.1 HX.out.2 _).mono ?_
  rw [HB.out.2]
  rintro e w1 ⟨rfl, b1⟩
  have c1 := c0.trans (b1.mono c0.size)
  go_wp2_with fail
  go_ret2
  exact ⟨by rw [HB.out.1, HB.out.2]; rfl, c1⟩
set_option maxRecDepth 100000 in
set_option maxHeartbeats 2000000 in
theorem rprint_put (a b : Int) (x v : ByteArray) (hx : x.size ≤ 100000) (hv : v.size ≤ 100000) (h : opGood ⟨1, a, b, x, v⟩) (w : World) :
    Calls Tryz.prog 32 #[opA 1 a b x v] w fun e w' => e = .returned (.tuple #[.string (prT ⟨1, a, b, x, v⟩), .int .i64 (prE ⟨1, a, b, x, v⟩)]) ∧ Below w.heap.size w w' := by
  have HG := Lib.hid (pr_good h)
  obtain ⟨T, hT⟩ : ∃ T, (⟨(textV v.data.toList).1.toArray⟩ : ByteArray) = T := ⟨_, rfl⟩
  obtain ⟨te, hte⟩ : ∃ te, (textV v.data.toList).2 = te := ⟨_, rfl⟩
  have hTs : T.size ≤ 2000 := by rw [← hT]; exact textV_short v
  have HTX : Hid ((((⟨#[112, 117, 116, 32]⟩ : ByteArray) ++ x) ++ ⟨#[32]⟩) ++ T = pack (opT ⟨1, a, b, x, v⟩)) := by
    show _ = _
    rw [good1_text rfl, ← hT]
    apply ByteArray.ext
    apply Array.ext'
    simp [pack, wordL]
  have q1 : ¬ 9223372036854775807 < 4 + x.size := by omega
  have q2 : ¬ 9223372036854775807 < 4 + x.size + 1 := by omega
  have q3 : ¬ 9223372036854775807 < 4 + x.size + 1 + T.size := by omega
  have HX := Lib.hid (And.intro hx hv)
  have HT := Lib.hid (And.intro hT hte)
  clear hx hv h hT hte hTs
  go_enter Tryz.func32, Tryz.ntmps32
  go_wp2_with fail
  have c0 : Below w.heap.size w (w.alloc (.cells #[.int .i64 1, .int .i64 a, .int .i64 b, .string x, .string v] 28)) := (Below.refl _ _).alloc (Nat.le_refl _) _
  have H0 := Lib.hid (OpBox.new w 1 a b x v 28)
  generalize (w.alloc (.cells #[.int .i64 1, .int .i64 a, .int .i64 b, .string x, .string v] 28)) = w0 at *
  refine (rcheck39_any 1 a b x v HX.out.1 HX.out.2 _).mono ?_
  rw [HG.out.2]
  rintro e w1 ⟨rfl, b1⟩
  have H1 := Lib.hid (H0.out.below b1)
  have c1 := c0.trans (b1.mono c0.size)
  clear c0 H0 b1
  obtain ⟨⟨p0, p1, p2, p3, p4⟩, pf⟩ := H1.out
  clear pf
  go_wp2_with fail
  refine (rword_any 1 _).mono ?_
  rw [show pack (wordL 1) = ⟨#[112, 117, 116]⟩ from rfl]
  rintro e w2 ⟨rfl, b2⟩
  have H2 := Lib.hid (H1.out.below b2)
  have c2 := c1.trans (b2.mono c1.size)
  clear H1 c1 b2 p0 p1 p2 p3 p4
  obtain ⟨⟨p0, p1, p2, p3, p4⟩, pf⟩ := H2.out
  clear pf
  go_wp2_with fail
  refine (vrtext_any v _).mono ?_
  rw [HT.out.1, HT.out.2]
  rintro e w3 ⟨rfl, b3⟩
  have H3 := Lib.hid (H2.out.below b3)
  have c3 := c2.trans (b3.mono c2.size)
  clear H2 c2 b3 p0 p1 p2 p3 p4
  obtain ⟨⟨p0, p1, p2, p3, p4⟩, pf⟩ := H3.out
  clear pf
  go_wp2_with fail
  go_ret2
  exact ⟨by rw [HG.out.1, HG.out.2, ← HTX.out]; rfl, c3⟩
set_option maxRecDepth 100000 in
set_option maxHeartbeats 2000000 in
theorem rprint_get (a b : Int) (x v : ByteArray) (hx : x.size ≤ 100000) (hv : v.size ≤ 100000) (h : opGood ⟨2, a, b, x, v⟩) (w : World) :
    Calls Tryz.prog 32 #[opA 2 a b x v] w fun e w' => e = .returned (.tuple #[.string (prT ⟨2, a, b, x, v⟩), .int .i64 (prE ⟨2, a, b, x, v⟩)]) ∧ Below w.heap.size w w' := by
  have HG := Lib.hid (pr_good h)
  have HTX : Hid ((⟨#[103, 101, 116, 32]⟩ : ByteArray) ++ x = pack (opT ⟨2, a, b, x, v⟩)) := by
    show _ = _
    rw [good2_text (by show (2 : Int) = 2 ∨ (2 : Int) = 3; decide)]
    apply ByteArray.ext
    apply Array.ext'
    simp [pack, wordL]
  have q1 : ¬ 9223372036854775807 < 4 + x.size := by omega
  have HX := Lib.hid (And.intro hx hv)
  clear hx hv h
  go_enter Tryz.func32, Tryz.ntmps32
  go_wp2_with fail
  have c0 : Below w.heap.size w (w.alloc (.cells #[.int .i64 2, .int .i64 a, .int .i64 b, .string x, .string v] 28)) := (Below.refl _ _).alloc (Nat.le_refl _) _
  have H0 := Lib.hid (OpBox.new w 2 a b x v 28)
  generalize (w.alloc (.cells #[.int .i64 2, .int .i64 a, .int .i64 b, .string x, .string v] 28)) = w0 at *
  refine (rcheck39_any 2 a b x v HX.out.1 HX.out.2 _).mono ?_
  rw [HG.out.2]
  rintro e w1 ⟨rfl, b1⟩
  have H1 := Lib.hid (H0.out.below b1)
  have c1 := c0.trans (b1.mono c0.size)
  clear c0 H0 b1
  obtain ⟨⟨p0, p1, p2, p3, p4⟩, pf⟩ := H1.out
  clear pf
  go_wp2_with fail
  refine (rword_any 2 _).mono ?_
  rw [show pack (wordL 2) = ⟨#[103, 101, 116]⟩ from rfl]
  rintro e w2 ⟨rfl, b2⟩
  have H2 := Lib.hid (H1.out.below b2)
  have c2 := c1.trans (b2.mono c1.size)
  clear H1 c1 b2 p0 p1 p2 p3 p4
  obtain ⟨⟨p0, p1, p2, p3, p4⟩, pf⟩ := H2.out
  clear pf
  go_wp2_with fail
  go_ret2
  exact ⟨by rw [HG.out.1, HG.out.2, ← HTX.out]; rfl, c2⟩
set_option maxRecDepth 100000 in
set_option maxHeartbeats 2000000 in
theorem rprint_delete (a b : Int) (x v : ByteArray) (hx : x.size ≤ 100000) (hv : v.size ≤ 100000) (h : opGood ⟨3, a, b, x, v⟩) (w : World) :
    Calls Tryz.prog 32 #[opA 3 a b x v] w fun e w' => e = .returned (.tuple #[.string (prT ⟨3, a, b, x, v⟩), .int .i64 (prE ⟨3, a, b, x, v⟩)]) ∧ Below w.heap.size w w' := by
  have HG := Lib.hid (pr_good h)
  have HTX : Hid ((⟨#[100, 101, 108, 101, 116, 101, 32]⟩ : ByteArray) ++ x = pack (opT ⟨3, a, b, x, v⟩)) := by
    show _ = _
    rw [good2_text (by show (3 : Int) = 2 ∨ (3 : Int) = 3; decide)]
    apply ByteArray.ext
    apply Array.ext'
    simp [pack, wordL]
  have q1 : ¬ 9223372036854775807 < 7 + x.size := by omega
  have HX := Lib.hid (And.intro hx hv)
  clear hx hv h
  go_enter Tryz.func32, Tryz.ntmps32
  go_wp2_with fail
  have c0 : Below w.heap.size w (w.alloc (.cells #[.int .i64 3, .int .i64 a, .int .i64 b, .string x, .string v] 28)) := (Below.refl _ _).alloc (Nat.le_refl _) _
  have H0 := Lib.hid (OpBox.new w 3 a b x v 28)
  generalize (w.alloc (.cells #[.int .i64 3, .int .i64 a, .int .i64 b, .string x, .string v] 28)) = w0 at *
  refine (rcheck39_any 3 a b x v HX.out.1 HX.out.2 _).mono ?_
  rw [HG.out.2]
  rintro e w1 ⟨rfl, b1⟩
  have H1 := Lib.hid (H0.out.below b1)
  have c1 := c0.trans (b1.mono c0.size)
  clear c0 H0 b1
  obtain ⟨⟨p0, p1, p2, p3, p4⟩, pf⟩ := H1.out
  clear pf
  go_wp2_with fail
  refine (rword_any 3 _).mono ?_
  rw [show pack (wordL 3) = ⟨#[100, 101, 108, 101, 116, 101]⟩ from rfl]
  rintro e w2 ⟨rfl, b2⟩
  have H2 := Lib.hid (H1.out.below b2)
  have c2 := c1.trans (b2.mono c1.size)
  clear H1 c1 b2 p0 p1 p2 p3 p4
  obtain ⟨⟨p0, p1, p2, p3, p4⟩, pf⟩ := H2.out
  clear pf
  go_wp2_with fail
  go_ret2
  exact ⟨by rw [HG.out.1, HG.out.2, ← HTX.out]; rfl, c2⟩
set_option maxRecDepth 100000 in
set_option maxHeartbeats 2000000 in
theorem rprint_sync (a b : Int) (x v : ByteArray) (hx : x.size ≤ 100000) (hv : v.size ≤ 100000) (h : opGood ⟨4, a, b, x, v⟩) (w : World) :
    Calls Tryz.prog 32 #[opA 4 a b x v] w fun e w' => e = .returned (.tuple #[.string (prT ⟨4, a, b, x, v⟩), .int .i64 (prE ⟨4, a, b, x, v⟩)]) ∧ Below w.heap.size w w' := by
  have HG := Lib.hid (pr_good h)
  have HTX : Hid ((⟨#[115, 121, 110, 99]⟩ : ByteArray) = pack (opT ⟨4, a, b, x, v⟩)) := by
    show _ = _
    rw [good4_text (by show (4 : Int) = 4 ∨ (4 : Int) = 5 ∨ (4 : Int) = 8; decide)]
    rfl
  have HX := Lib.hid (And.intro hx hv)
  clear hx hv h
  go_enter Tryz.func32, Tryz.ntmps32
  go_wp2_with fail
  have c0 : Below w.heap.size w (w.alloc (.cells #[.int .i64 4, .int .i64 a, .int .i64 b, .string x, .string v] 28)) := (Below.refl _ _).alloc (Nat.le_refl _) _
  have H0 := Lib.hid (OpBox.new w 4 a b x v 28)
  generalize (w.alloc (.cells #[.int .i64 4, .int .i64 a, .int .i64 b, .string x, .string v] 28)) = w0 at *
  refine (rcheck39_any 4 a b x v HX.out.1 HX.out.2 _).mono ?_
  rw [HG.out.2]
  rintro e w1 ⟨rfl, b1⟩
  have H1 := Lib.hid (H0.out.below b1)
  have c1 := c0.trans (b1.mono c0.size)
  clear c0 H0 b1
  obtain ⟨⟨p0, p1, p2, p3, p4⟩, pf⟩ := H1.out
  clear pf
  go_wp2_with fail
  refine (rword_any 4 _).mono ?_
  rw [show pack (wordL 4) = ⟨#[115, 121, 110, 99]⟩ from rfl]
  rintro e w2 ⟨rfl, b2⟩
  have H2 := Lib.hid (H1.out.below b2)
  have c2 := c1.trans (b2.mono c1.size)
  clear H1 c1 b2 p0 p1 p2 p3 p4
  obtain ⟨⟨p0, p1, p2, p3, p4⟩, pf⟩ := H2.out
  clear pf
  go_wp2_with fail
  go_ret2
  exact ⟨by rw [HG.out.1, HG.out.2, ← HTX.out]; rfl, c2⟩
set_option maxRecDepth 100000 in
set_option maxHeartbeats 2000000 in
theorem rprint_step (a b : Int) (x v : ByteArray) (hx : x.size ≤ 100000) (hv : v.size ≤ 100000) (h : opGood ⟨5, a, b, x, v⟩) (w : World) :
    Calls Tryz.prog 32 #[opA 5 a b x v] w fun e w' => e = .returned (.tuple #[.string (prT ⟨5, a, b, x, v⟩), .int .i64 (prE ⟨5, a, b, x, v⟩)]) ∧ Below w.heap.size w w' := by
  have HG := Lib.hid (pr_good h)
  have HTX : Hid ((⟨#[115, 116, 101, 112]⟩ : ByteArray) = pack (opT ⟨5, a, b, x, v⟩)) := by
    show _ = _
    rw [good4_text (by show (5 : Int) = 4 ∨ (5 : Int) = 5 ∨ (5 : Int) = 8; decide)]
    rfl
  have HX := Lib.hid (And.intro hx hv)
  clear hx hv h
  go_enter Tryz.func32, Tryz.ntmps32
  go_wp2_with fail
  have c0 : Below w.heap.size w (w.alloc (.cells #[.int .i64 5, .int .i64 a, .int .i64 b, .string x, .string v] 28)) := (Below.refl _ _).alloc (Nat.le_refl _) _
  have H0 := Lib.hid (OpBox.new w 5 a b x v 28)
  generalize (w.alloc (.cells #[.int .i64 5, .int .i64 a, .int .i64 b, .string x, .string v] 28)) = w0 at *
  refine (rcheck39_any 5 a b x v HX.out.1 HX.out.2 _).mono ?_
  rw [HG.out.2]
  rintro e w1 ⟨rfl, b1⟩
  have H1 := Lib.hid (H0.out.below b1)
  have c1 := c0.trans (b1.mono c0.size)
  clear c0 H0 b1
  obtain ⟨⟨p0, p1, p2, p3, p4⟩, pf⟩ := H1.out
  clear pf
  go_wp2_with fail
  refine (rword_any 5 _).mono ?_
  rw [show pack (wordL 5) = ⟨#[115, 116, 101, 112]⟩ from rfl]
  rintro e w2 ⟨rfl, b2⟩
  have H2 := Lib.hid (H1.out.below b2)
  have c2 := c1.trans (b2.mono c1.size)
  clear H1 c1 b2 p0 p1 p2 p3 p4
  obtain ⟨⟨p0, p1, p2, p3, p4⟩, pf⟩ := H2.out
  clear pf
  go_wp2_with fail
  go_ret2
  exact ⟨by rw [HG.out.1, HG.out.2, ← HTX.out]; rfl, c2⟩
set_option maxRecDepth 100000 in
set_option maxHeartbeats 2000000 in
theorem rprint_reopen (a b : Int) (x v : ByteArray) (hx : x.size ≤ 100000) (hv : v.size ≤ 100000) (h : opGood ⟨8, a, b, x, v⟩) (w : World) :
    Calls Tryz.prog 32 #[opA 8 a b x v] w fun e w' => e = .returned (.tuple #[.string (prT ⟨8, a, b, x, v⟩), .int .i64 (prE ⟨8, a, b, x, v⟩)]) ∧ Below w.heap.size w w' := by
  have HG := Lib.hid (pr_good h)
  have HTX : Hid ((⟨#[114, 101, 111, 112, 101, 110]⟩ : ByteArray) = pack (opT ⟨8, a, b, x, v⟩)) := by
    show _ = _
    rw [good4_text (by show (8 : Int) = 4 ∨ (8 : Int) = 5 ∨ (8 : Int) = 8; decide)]
    rfl
  have HX := Lib.hid (And.intro hx hv)
  clear hx hv h
  go_enter Tryz.func32, Tryz.ntmps32
  go_wp2_with fail
  have c0 : Below w.heap.size w (w.alloc (.cells #[.int .i64 8, .int .i64 a, .int .i64 b, .string x, .string v] 28)) := (Below.refl _ _).alloc (Nat.le_refl _) _
  have H0 := Lib.hid (OpBox.new w 8 a b x v 28)
  generalize (w.alloc (.cells #[.int .i64 8, .int .i64 a, .int .i64 b, .string x, .string v] 28)) = w0 at *
  refine (rcheck39_any 8 a b x v HX.out.1 HX.out.2 _).mono ?_
  rw [HG.out.2]
  rintro e w1 ⟨rfl, b1⟩
  have H1 := Lib.hid (H0.out.below b1)
  have c1 := c0.trans (b1.mono c0.size)
  clear c0 H0 b1
  obtain ⟨⟨p0, p1, p2, p3, p4⟩, pf⟩ := H1.out
  clear pf
  go_wp2_with fail
  refine (rword_any 8 _).mono ?_
  rw [show pack (wordL 8) = ⟨#[114, 101, 111, 112, 101, 110]⟩ from rfl]
  rintro e w2 ⟨rfl, b2⟩
  have H2 := Lib.hid (H1.out.below b2)
  have c2 := c1.trans (b2.mono c1.size)
  clear H1 c1 b2 p0 p1 p2 p3 p4
  obtain ⟨⟨p0, p1, p2, p3, p4⟩, pf⟩ := H2.out
  clear pf
  go_wp2_with fail
  go_ret2
  exact ⟨by rw [HG.out.1, HG.out.2, ← HTX.out]; rfl, c2⟩
set_option maxRecDepth 100000 in
set_option maxHeartbeats 2000000 in
theorem rprint_polone (b : Int) (x v : ByteArray) (hx : x.size ≤ 100000) (hv : v.size ≤ 100000) (h : opGood ⟨6, 1, b, x, v⟩) (w : World) :
    Calls Tryz.prog 32 #[opA 6 1 b x v] w fun e w' => e = .returned (.tuple #[.string (prT ⟨6, 1, b, x, v⟩), .int .i64 (prE ⟨6, 1, b, x, v⟩)]) ∧ Below w.heap.size w w' := by
  have HG := Lib.hid (pr_good h)
  have HTX : Hid ((⟨#[112, 111, 108, 105, 99, 121, 32, 103, 114, 101, 101, 100, 121]⟩ : ByteArray) = pack (opT ⟨6, 1, b, x, v⟩)) := by
    show _ = _
    rw [good6_text rfl]
    rfl
  have HX := Lib.hid (And.intro hx hv)
  clear hx hv h
  go_enter Tryz.func32, Tryz.ntmps32
  go_wp2_with fail
  have c0 : Below w.heap.size w (w.alloc (.cells #[.int .i64 6, .int .i64 1, .int .i64 b, .string x, .string v] 28)) := (Below.refl _ _).alloc (Nat.le_refl _) _
  have H0 := Lib.hid (OpBox.new w 6 1 b x v 28)
  generalize (w.alloc (.cells #[.int .i64 6, .int .i64 1, .int .i64 b, .string x, .string v] 28)) = w0 at *
  refine (rcheck39_any 6 1 b x v HX.out.1 HX.out.2 _).mono ?_
  rw [HG.out.2]
  rintro e w1 ⟨rfl, b1⟩
  have H1 := Lib.hid (H0.out.below b1)
  have c1 := c0.trans (b1.mono c0.size)
  clear c0 H0 b1
  obtain ⟨⟨p0, p1, p2, p3, p4⟩, pf⟩ := H1.out
  clear pf
  go_wp2_with fail
  refine (rword_any 6 _).mono ?_
  rw [show pack (wordL 6) = ⟨#[112, 111, 108, 105, 99, 121]⟩ from rfl]
  rintro e w2 ⟨rfl, b2⟩
  have H2 := Lib.hid (H1.out.below b2)
  have c2 := c1.trans (b2.mono c1.size)
  clear H1 c1 b2 p0 p1 p2 p3 p4
  obtain ⟨⟨p0, p1, p2, p3, p4⟩, pf⟩ := H2.out
  clear pf
  have o1 : (w2.alloc (.cells #[.string greedyS, .string benefitS] 9)).cell? ⟨w.heap.size, 1, none⟩ = some (.int .i64 1) := cell_old p1
  go_wp2_with fail
  go_ret2
  exact ⟨by rw [HG.out.1, HG.out.2, ← HTX.out]; rfl, c2.alloc c2.size _⟩
set_option maxRecDepth 100000 in
set_option maxHeartbeats 2000000 in
theorem rprint_poltwo (b : Int) (x v : ByteArray) (hx : x.size ≤ 100000) (hv : v.size ≤ 100000) (h : opGood ⟨6, 2, b, x, v⟩) (w : World) :
    Calls Tryz.prog 32 #[opA 6 2 b x v] w fun e w' => e = .returned (.tuple #[.string (prT ⟨6, 2, b, x, v⟩), .int .i64 (prE ⟨6, 2, b, x, v⟩)]) ∧ Below w.heap.size w w' := by
  have HG := Lib.hid (pr_good h)
  have HTX : Hid ((⟨#[112, 111, 108, 105, 99, 121, 32, 98, 101, 110, 101, 102, 105, 116]⟩ : ByteArray) = pack (opT ⟨6, 2, b, x, v⟩)) := by
    show _ = _
    rw [good6_text rfl]
    rfl
  have HX := Lib.hid (And.intro hx hv)
  clear hx hv h
  go_enter Tryz.func32, Tryz.ntmps32
  go_wp2_with fail
  have c0 : Below w.heap.size w (w.alloc (.cells #[.int .i64 6, .int .i64 2, .int .i64 b, .string x, .string v] 28)) := (Below.refl _ _).alloc (Nat.le_refl _) _
  have H0 := Lib.hid (OpBox.new w 6 2 b x v 28)
  generalize (w.alloc (.cells #[.int .i64 6, .int .i64 2, .int .i64 b, .string x, .string v] 28)) = w0 at *
  refine (rcheck39_any 6 2 b x v HX.out.1 HX.out.2 _).mono ?_
  rw [HG.out.2]
  rintro e w1 ⟨rfl, b1⟩
  have H1 := Lib.hid (H0.out.below b1)
  have c1 := c0.trans (b1.mono c0.size)
  clear c0 H0 b1
  obtain ⟨⟨p0, p1, p2, p3, p4⟩, pf⟩ := H1.out
  clear pf
  go_wp2_with fail
  refine (rword_any 6 _).mono ?_
  rw [show pack (wordL 6) = ⟨#[112, 111, 108, 105, 99, 121]⟩ from rfl]
  rintro e w2 ⟨rfl, b2⟩
  have H2 := Lib.hid (H1.out.below b2)
  have c2 := c1.trans (b2.mono c1.size)
  clear H1 c1 b2 p0 p1 p2 p3 p4
  obtain ⟨⟨p0, p1, p2, p3, p4⟩, pf⟩ := H2.out
  clear pf
  have o1 : (w2.alloc (.cells #[.string greedyS, .string benefitS] 9)).cell? ⟨w.heap.size, 1, none⟩ = some (.int .i64 2) := cell_old p1
  go_wp2_with fail
  go_ret2
  exact ⟨by rw [HG.out.1, HG.out.2, ← HTX.out]; rfl, c2.alloc c2.size _⟩
theorem str_cat3 (a b c : ByteArray) : (a ++ b) ++ c = a ++ (b ++ c) := by
  apply ByteArray.ext
  apply Array.ext'
  simp
set_option maxRecDepth 100000 in
set_option maxHeartbeats 2000000 in
theorem rprint_crashno (a : Int) (x v : ByteArray) (hx : x.size ≤ 100000) (hv : v.size ≤ 100000) (h : opGood ⟨7, a, 0, x, v⟩) (w : World) :
    Calls Tryz.prog 32 #[opA 7 a 0 x v] w fun e w' => e = .returned (.tuple #[.string (prT ⟨7, a, 0, x, v⟩), .int .i64 (prE ⟨7, a, 0, x, v⟩)]) ∧ Below w.heap.size w w' := by
  have HG := Lib.hid (pr_good h)
  obtain ⟨h0, h1, _⟩ := good7_range (o := ⟨7, a, 0, x, v⟩) rfl h
  have h0' : 0 ≤ a := h0
  have h1' : a ≤ 1000000 := h1
  obtain ⟨T, hT⟩ : ∃ T, pack (crashL a 0 v.data.toList) = T := ⟨_, rfl⟩
  have hTl : T.data.toList = crashL a 0 v.data.toList := by rw [← hT, pack_data]
  have hTs : T.size ≤ 200000 := by
    rw [← str_len T, hTl]
    unfold crashL
    have := dS_len a h1'
    simp
    omega
  have HTX : Hid ((⟨#[99, 114, 97, 115, 104, 32]⟩ : ByteArray) ++ T = pack (opT ⟨7, a, 0, x, v⟩)) := by
    show _ = _
    rw [good7_text rfl h]
    apply ByteArray.ext
    apply Array.ext'
    show _ = (pack (wordL 7 ++ 32 :: crashI a 0 v.data.toList)).data.toList
    rw [crashI_pos h0', pack_data, ← hTl]
    simp [wordL]
  have q1 : ¬ 9223372036854775807 < 6 + T.size := by omega
  have HX := Lib.hid (And.intro hx hv)
  have HA := Lib.hid (And.intro h0' (And.intro h1' hTl))
  clear hx hv h hT h0 h1 h0' h1' hTl hTs
  obtain ⟨A, hA⟩ : ∃ A, pA T = A := ⟨_, rfl⟩
  obtain ⟨d, hd⟩ : ∃ d, pD T = d := ⟨_, rfl⟩
  obtain ⟨E, hE⟩ : ∃ E, pE T = E := ⟨_, rfl⟩
  have HE := Lib.hid (And.intro hA (And.intro hd hE))
  clear hA hd hE
  go_enter Tryz.func32, Tryz.ntmps32
  go_wp2_with fail
  have c0 : Below w.heap.size w (w.alloc (.cells #[.int .i64 7, .int .i64 a, .int .i64 0, .string x, .string v] 28)) := (Below.refl _ _).alloc (Nat.le_refl _) _
  have H0 := Lib.hid (OpBox.new w 7 a 0 x v 28)
  generalize (w.alloc (.cells #[.int .i64 7, .int .i64 a, .int .i64 0, .string x, .string v] 28)) = w0 at *
  refine (rcheck39_any 7 a 0 x v HX.out.1 HX.out.2 _).mono ?_
  rw [HG.out.2]
  rintro e w1 ⟨rfl, b1⟩
  have H1 := Lib.hid (H0.out.below b1)
  have c1 := c0.trans (b1.mono c0.size)
  clear c0 H0 b1
  obtain ⟨⟨p0, p1, p2, p3, p4⟩, pf⟩ := H1.out
  clear pf
  go_wp2_with fail
  refine (rword_any 7 _).mono ?_
  rw [show pack (wordL 7) = ⟨#[99, 114, 97, 115, 104]⟩ from rfl]
  rintro e w2 ⟨rfl, b2⟩
  have H2 := Lib.hid (H1.out.below b2)
  have c2 := c1.trans (b2.mono c1.size)
  clear H1 c1 b2 p0 p1 p2 p3 p4
  obtain ⟨⟨p0, p1, p2, p3, p4⟩, pf⟩ := H2.out
  clear pf
  go_wp2_with fail
  refine (rplan_no 7 a x v HA.out.1 HA.out.2.1 HX.out.2 T HA.out.2.2 _).mono ?_
  rw [HE.out.1, HE.out.2.1, HE.out.2.2]
  rintro e w3 ⟨⟨s3, rfl, hn3⟩, b3⟩
  obtain ⟨p3', c3', rfl⟩ := ownsRow_slice hn3
  obtain ⟨n3, hn⟩ : ∃ n3, (pL T).length = n3 := ⟨_, rfl⟩
  rw [hn]
  have c3 := (c2.trans (b3.mono c2.size)).alloc (Nat.le_trans c2.size b3.size) (.cells #[.int .i64 A, .bool d, .slice p3' n3 c3'] 38)
  clear hn3 hn H2 c2 b3 p0 p1 p2 p3 p4
  go_wp2_with fail
  go_ret2
  exact ⟨by rw [HG.out.1, HG.out.2, ← HTX.out]; rfl, c3⟩
set_option maxRecDepth 100000 in
set_option maxHeartbeats 2000000 in
theorem rprint_crashyes (a : Int) (x v : ByteArray) (hx : x.size ≤ 100000) (hv : v.size ≤ 100000) (h : opGood ⟨7, a, 1, x, v⟩) (w : World) :
    Calls Tryz.prog 32 #[opA 7 a 1 x v] w fun e w' => e = .returned (.tuple #[.string (prT ⟨7, a, 1, x, v⟩), .int .i64 (prE ⟨7, a, 1, x, v⟩)]) ∧ Below w.heap.size w w' := by
  have HG := Lib.hid (pr_good h)
  obtain ⟨h0, h1, _⟩ := good7_range (o := ⟨7, a, 1, x, v⟩) rfl h
  have h0' : 0 ≤ a := h0
  have h1' : a ≤ 1000000 := h1
  obtain ⟨T, hT⟩ : ∃ T, pack (crashL a 1 v.data.toList) = T := ⟨_, rfl⟩
  have hTl : T.data.toList = crashL a 1 v.data.toList := by rw [← hT, pack_data]
  have hTs : T.size ≤ 200000 := by
    rw [← str_len T, hTl]
    unfold crashL
    have := dS_len a h1'
    simp
    omega
  have HTX : Hid ((⟨#[99, 114, 97, 115, 104, 32]⟩ : ByteArray) ++ T = pack (opT ⟨7, a, 1, x, v⟩)) := by
    show _ = _
    rw [good7_text rfl h]
    apply ByteArray.ext
    apply Array.ext'
    show _ = (pack (wordL 7 ++ 32 :: crashI a 1 v.data.toList)).data.toList
    rw [crashI_pos h0', pack_data, ← hTl]
    simp [wordL]
  have q1 : ¬ 9223372036854775807 < 6 + T.size := by omega
  have HX := Lib.hid (And.intro hx hv)
  have HA := Lib.hid (And.intro h0' (And.intro h1' hTl))
  clear hx hv h hT h0 h1 h0' h1' hTl hTs
  obtain ⟨A, hA⟩ : ∃ A, pA T = A := ⟨_, rfl⟩
  obtain ⟨d, hd⟩ : ∃ d, pD T = d := ⟨_, rfl⟩
  obtain ⟨E, hE⟩ : ∃ E, pE T = E := ⟨_, rfl⟩
  have HE := Lib.hid (And.intro hA (And.intro hd hE))
  clear hA hd hE
  go_enter Tryz.func32, Tryz.ntmps32
  go_wp2_with fail
  have c0 : Below w.heap.size w (w.alloc (.cells #[.int .i64 7, .int .i64 a, .int .i64 1, .string x, .string v] 28)) := (Below.refl _ _).alloc (Nat.le_refl _) _
  have H0 := Lib.hid (OpBox.new w 7 a 1 x v 28)
  generalize (w.alloc (.cells #[.int .i64 7, .int .i64 a, .int .i64 1, .string x, .string v] 28)) = w0 at *
  refine (rcheck39_any 7 a 1 x v HX.out.1 HX.out.2 _).mono ?_
  rw [HG.out.2]
  rintro e w1 ⟨rfl, b1⟩
  have H1 := Lib.hid (H0.out.below b1)
  have c1 := c0.trans (b1.mono c0.size)
  clear c0 H0 b1
  obtain ⟨⟨p0, p1, p2, p3, p4⟩, pf⟩ := H1.out
  clear pf
  go_wp2_with fail
  refine (rword_any 7 _).mono ?_
  rw [show pack (wordL 7) = ⟨#[99, 114, 97, 115, 104]⟩ from rfl]
  rintro e w2 ⟨rfl, b2⟩
  have H2 := Lib.hid (H1.out.below b2)
  have c2 := c1.trans (b2.mono c1.size)
  clear H1 c1 b2 p0 p1 p2 p3 p4
  obtain ⟨⟨p0, p1, p2, p3, p4⟩, pf⟩ := H2.out
  clear pf
  go_wp2_with fail
  refine (rplan_yes 7 a x v HA.out.1 HA.out.2.1 HX.out.2 T HA.out.2.2 _).mono ?_
  rw [HE.out.1, HE.out.2.1, HE.out.2.2]
  rintro e w3 ⟨⟨s3, rfl, hn3⟩, b3⟩
  obtain ⟨p3', c3', rfl⟩ := ownsRow_slice hn3
  obtain ⟨n3, hn⟩ : ∃ n3, (pL T).length = n3 := ⟨_, rfl⟩
  rw [hn]
  have c3 := (c2.trans (b3.mono c2.size)).alloc (Nat.le_trans c2.size b3.size) (.cells #[.int .i64 A, .bool d, .slice p3' n3 c3'] 38)
  clear hn3 hn H2 c2 b3 p0 p1 p2 p3 p4
  go_wp2_with fail
  go_ret2
  exact ⟨by rw [HG.out.1, HG.out.2, ← HTX.out]; rfl, c3⟩
theorem rprint39_any (k a b : Int) (x v : ByteArray) (hx : x.size ≤ 100000) (hv : v.size ≤ 100000) (w : World) :
    Calls Tryz.prog 32 #[opA k a b x v] w fun e w' => e = .returned (.tuple #[.string (prT ⟨k, a, b, x, v⟩), .int .i64 (prE ⟨k, a, b, x, v⟩)]) ∧ Below w.heap.size w w' := by
  by_cases h : opGood ⟨k, a, b, x, v⟩
  · have hk := good_kind h
    have hk0 : 1 ≤ k := hk.1
    have hk1 : k ≤ 8 := hk.2
    rcases (show k = 1 ∨ k = 2 ∨ k = 3 ∨ k = 4 ∨ k = 5 ∨ k = 6 ∨ k = 7 ∨ k = 8 by omega) with rfl | rfl | rfl | rfl | rfl | rfl | rfl | rfl
    · exact rprint_put a b x v hx hv h w
    · exact rprint_get a b x v hx hv h w
    · exact rprint_delete a b x v hx hv h w
    · exact rprint_sync a b x v hx hv h w
    · exact rprint_step a b x v hx hv h w
    · have h1 := ((good6 (o := ⟨6, a, b, x, v⟩) rfl).1 h).1
      rcases h1 with h1 | h1
      · have e : a = 1 := h1
        subst e
        exact rprint_polone b x v hx hv h w
      · have e : a = 2 := h1
        subst e
        exact rprint_poltwo b x v hx hv h w
    · have h1 := good7_b (o := ⟨7, a, b, x, v⟩) rfl h
      rcases h1 with h1 | h1
      · have e : b = 0 := h1
        subst e
        exact rprint_crashno a x v hx hv h w
      · have e : b = 1 := h1
        subst e
        exact rprint_crashyes a x v hx hv h w
    · exact rprint_reopen a b x v hx hv h w
  · exact rprint_bad k a b x v hx hv h w
end Go.Proofs.YtlmbcclggaflaaaGreatDoor
namespace Go.Proofs.YtlmbcclggaflaaaGreatDoor
open Go Go.RowKit

/-- What a reading function does: the operation at B, and nothing below. -/
def readsO (b0 : Nat) (w0 : World) (B : Nat) (k a b : Int) (x v : ByteArray) (e : Ending) (w' : World) : Prop := e = .returned (.tuple #[]) ∧ OpBox w' B k a b x v ∧ Below b0 w0 w'
set_option maxHeartbeats 1000000 in
theorem readKey_any (s : ByteArray) (B b0 : Nat) (k a b : Int) (x v : ByteArray) (w0 w : World) (h : OpBox w B k a b x v) (hB : b0 ≤ B) (hw : Below b0 w0 w) :
    Calls Tryz.prog 97 #[.string s, .pointer (some ⟨B, 0, none⟩)] w (readsO b0 w0 B k a b s v) := by
  have HX := Lib.hid (h.set3 s)
  have HW := Lib.hid (below_set hw B hB 3 (.string s))
  obtain ⟨⟨h0, h1, h2, h3, h4⟩, hf⟩ := h
  have hf3 := hf 3
  clear h0 h1 h2 h4 hf hw
  go_enter Tryz.func97, Tryz.ntmps97
  go_wp2_with fail
  go_end0
  exact ⟨rfl, HX.out, HW.out⟩
theorem cut_sp (s : ByteArray) (hs : s.size ≤ 1000000) (m : Int) (w : World) (hm : w.cell? ⟨0, 0, none⟩ = some (.int .i64 m)) :
    Calls Tryz.prog 67 #[.string s, .string ⟨#[32]⟩] w fun e w' => (∃ b, e = .returned (.tuple #[.string (pack (hdL 32 s.data.toList)), .string (pack (tlL 32 s.data.toList)), .bool b])) ∧ Below w.heap.size w w' := by
  refine (Tryz.strings_Cut s ⟨#[32]⟩ m w (by omega) hm).mono ?_
  rintro e w' ⟨rfl, n, rfl⟩
  obtain ⟨h1, h2⟩ := cut_hd 32 s.data.toList
  refine ⟨⟨(Lib.cut s.data.toList [32]).2.2, ?_⟩, below_drewW w n⟩
  show Ending.returned (.tuple #[.string (pack (Lib.cut s.data.toList [32]).1), .string (pack (Lib.cut s.data.toList [32]).2.1), .bool (Lib.cut s.data.toList [32]).2.2]) = _
  rw [h1, h2]
set_option maxHeartbeats 1000000 in
theorem readPut_any (s : ByteArray) (hs : s.size ≤ 100000) (B b0 : Nat) (k a b : Int) (x v : ByteArray) (m : Int) (w0 w : World) (he : Env m w) (h : OpBox w B k a b x v) (hB : b0 ≤ B) (hw : Below b0 w0 w) (hz : b0 ≤ w.heap.size) :
    Calls Tryz.prog 95 #[.string s, .pointer (some ⟨B, 0, none⟩)] w (readsO b0 w0 B k a b (pack (hdL 32 s.data.toList)) (pack (parseV (tlL 32 s.data.toList)).1)) := by
  have htl : (pack (tlL 32 s.data.toList)).size ≤ 100000 := by
    rw [pack_size]
    have := tl_le 32 s.data.toList
    rw [str_len] at this
    omega
  have hpv := vparse_any (pack (tlL 32 s.data.toList))
  rw [pack_data] at hpv
  obtain ⟨X, hX⟩ : ∃ X, pack (hdL 32 s.data.toList) = X := ⟨_, rfl⟩
  obtain ⟨Y, hY⟩ : ∃ Y, pack (tlL 32 s.data.toList) = Y := ⟨_, rfl⟩
  obtain ⟨V, hV⟩ : ∃ V, pack (parseV (tlL 32 s.data.toList)).1 = V := ⟨_, rfl⟩
  obtain ⟨E, hE⟩ : ∃ E, (parseV (tlL 32 s.data.toList)).2 = E := ⟨_, rfl⟩
  have hV2 : (⟨(parseV (tlL 32 s.data.toList)).1.toArray⟩ : ByteArray) = V := hV
  rw [hY, hV2, hE] at hpv
  have hcut := cut_sp s (by omega) m
  rw [hX, hY] at hcut
  rw [hX, hV]
  rw [hY] at htl
  have HC := Lib.hid hcut
  have HP := Lib.hid hpv
  have HS := Lib.hid htl
  have HB := Lib.hid h
  have HBB := Lib.hid hB
  have HW := Lib.hid hw
  have HE := Lib.hid he
  have HZ := Lib.hid hz
  clear hX hY hV hV2 hE hcut hpv htl h hB hw he hs hz
  go_enter Tryz.func95, Tryz.ntmps95
  go_wp2_with fail
  refine (HC.out _ HE.out.2.2).mono ?_
  rintro e w1 ⟨⟨bb, rfl⟩, b1⟩
  have H1 := Lib.hid (HB.out.below b1)
  have W1 := Lib.hid (HW.out.trans (b1.mono HZ.out))
  have Z1 : Hid (b0 ≤ w1.heap.size) := Nat.le_trans HZ.out b1.size
  obtain ⟨⟨h0, h1, h2, h3, h4⟩, hf⟩ := H1.out
  have hf3 := hf 3
  clear hf b1 HB HW HZ
  have H2 := Lib.hid (H1.out.set3 X)
  have W2 := Lib.hid (below_set W1.out B HBB.out 3 (.string X))
  have Z2 : Hid (b0 ≤ (w1.setCell ⟨B, 3, none⟩ (.string X)).heap.size) := Nat.le_trans Z1.out (grown_set w1 B 3 (.string X)).size
  go_wp2_with fail
  generalize w1.setCell ⟨B, 3, none⟩ (.string X) = w2 at *
  clear h0 h1 h2 h3 h4 hf3 H1 W1 Z1
  refine (HP.out _ (by have := HS.out; omega)).mono ?_
  rintro e w3 ⟨rfl, b3⟩
  have H3 := Lib.hid (H2.out.below b3)
  have W3 := Lib.hid (W2.out.trans (b3.mono Z2.out))
  obtain ⟨⟨h0, h1, h2, h3, h4⟩, hf⟩ := H3.out
  have hf4 := hf 4
  clear hf b3
  have H4 := Lib.hid (H3.out.set4 V)
  have W4 := Lib.hid (below_set W3.out B HBB.out 4 (.string V))
  go_wp2_with fail
  go_end0
  exact ⟨rfl, H4.out, W4.out⟩
theorem idx_pol (s : ByteArray) : (if 0 > Lib.idxOfS [⟨#[]⟩, greedyS, benefitS] s then 0 else Lib.idxOfS [⟨#[]⟩, greedyS, benefitS] s) = polA s.data.toList := by
  have eg : (s = greedyS) ↔ s.data.toList = polL 1 := ⟨fun h => by rw [h]; rfl, fun h => by apply ByteArray.ext; apply Array.ext'; rw [h]; rfl⟩
  have eb : (s = benefitS) ↔ s.data.toList = polL 2 := ⟨fun h => by rw [h]; rfl, fun h => by apply ByteArray.ext; apply Array.ext'; rw [h]; rfl⟩
  unfold polA
  by_cases h0 : s = ⟨#[]⟩
  · subst h0
    decide
  · by_cases h1 : s = greedyS
    · rw [if_pos (eg.1 h1), h1]
      decide
    · by_cases h2 : s = benefitS
      · rw [if_neg (fun h => h1 (eg.2 h)), if_pos (eb.1 h2), h2]
        decide
      · rw [if_neg (fun h => h1 (eg.2 h)), if_neg (fun h => h2 (eb.2 h))]
        have := Lib.idxOfS_miss [⟨#[]⟩, greedyS, benefitS] 3 s (fun j hj => by
          match j, hj with
          | 0, _ => exact fun e => h0 e.symm
          | 1, _ => exact fun e => h1 e.symm
          | 2, _ => exact fun e => h2 e.symm)
        rw [show ([⟨#[]⟩, greedyS, benefitS] : List ByteArray).take 3 = [⟨#[]⟩, greedyS, benefitS] from rfl] at this
        rw [this]
        rfl
set_option maxHeartbeats 1000000 in
theorem readPolicy_any (s : ByteArray) (B b0 : Nat) (k a b : Int) (x v : ByteArray) (w0 w : World) (h : OpBox w B k a b x v) (hB : b0 ≤ B) (hw : Below b0 w0 w) (hz : b0 ≤ w.heap.size) :
    Calls Tryz.prog 99 #[.string s, .pointer (some ⟨B, 0, none⟩)] w (readsO b0 w0 B k (polA s.data.toList) b x v) := by
  obtain ⟨A, hA⟩ : ∃ A, polA s.data.toList = A := ⟨_, rfl⟩
  have hidx := idx_pol s
  rw [hA] at hidx ⊢
  obtain ⟨I, hI⟩ : ∃ I, Lib.idxOfS [⟨#[]⟩, greedyS, benefitS] s = I := ⟨_, rfl⟩
  rw [hI] at hidx
  have hmax : max I 0 = A := by
    rw [← hidx]
    split <;> omega
  have HI := Lib.hid hI
  have HB := Lib.hid h
  have HBB := Lib.hid hB
  have HW := Lib.hid hw
  have HZ := Lib.hid hz
  clear hA hidx hI h hB hw hz
  go_enter Tryz.func99, Tryz.ntmps99
  go_wp2_with fail
  refine (policies_any _).mono ?_
  rintro e w1 ⟨PB, rfl, l0, l1, l2, b1⟩
  have H1 := Lib.hid (HB.out.below b1)
  have W1 := Lib.hid (HW.out.trans (b1.mono HZ.out))
  have hidx := Tryz.slices_Index_string PB 0 3 3 [⟨#[]⟩, greedyS, benefitS] s w1 (by decide) (by decide) (fun j hj => by
    match j, hj with
    | 0, _ => exact l0
    | 1, _ => exact l1
    | 2, _ => exact l2)
  rw [show ([⟨#[]⟩, greedyS, benefitS] : List ByteArray).take 3 = [⟨#[]⟩, greedyS, benefitS] from rfl, HI.out] at hidx
  obtain ⟨⟨h0, h1, h2, h3, h4⟩, hf⟩ := H1.out
  have hf1 := hf 1
  clear hf b1 HB HW HZ l0 l1 l2
  go_wp2_with fail
  refine (keeps hidx).mono ?_
  rintro e w2 ⟨rfl, rfl⟩
  clear hidx
  have H4 := Lib.hid (H1.out.set1 A)
  have W4 := Lib.hid (below_set W1.out B HBB.out 1 (.int .i64 A))
  go_wp2_with fail
  go_end0
  exact ⟨rfl, H4.out, W4.out⟩
set_option maxRecDepth 100000 in
set_option maxHeartbeats 1000000 in
theorem lastIdx_inner (s : ByteArray) (hs : s.size ≤ 1000000) (c : UInt8) (X v : List UInt8) (h : s.data.toList = X ++ c :: v) (hv : c ∉ v) (w : World) :
    Calls Tryz.prog 144 #[.string s, .int .u8 (c.toNat : Int)] w fun e w' => e = .returned (.int .i64 (X.length : Int)) ∧ w = w' := by
  have hsz : s.size = X.length + 1 + v.length := by
    rw [← str_len, h, List.length_append, List.length_cons]
    omega
  obtain ⟨n, hn⟩ : ∃ n, X.length = n := ⟨_, rfl⟩
  rw [hn] at hsz ⊢
  have hhit : s.data.toList.getD n 0 = c := by
    rw [h, ← hn, List.getD, List.getElem?_append_right (Nat.le_refl _), Nat.sub_self]
    rfl
  have hmis : ∀ i, n < i → i < s.size → s.data.toList.getD i 0 ≠ c := by
    intro i h1 h2 e
    rw [h, List.getD, List.getElem?_append_right (by omega), show i - X.length = (i - n - 1) + 1 by omega, List.getElem?_cons_succ, List.getElem?_eq_getElem (by omega)] at e
    exact hv (by rw [← e]; exact List.getElem_mem _)
  have HH := Lib.hid hhit
  have HM := Lib.hid hmis
  have w0 : IntKind.i64.wrap ((s.size : Int) - 1) = (s.size : Int) - 1 := IntWalk.i64_in _ (by omega)
  clear h hv hn hhit hmis
  go_enter Tryz.func144, Tryz.ntmps144
  go_wp2_with fail
  go_loopw [5] (fun vi wr => ∃ i : Nat, n ≤ i ∧ i < s.size ∧ vi = .int .i64 i ∧ Hid (wr = w)) (fun vi _ => (intOf vi).toNat)
  case atStart => exact ⟨s.size - 1, by omega, by omega, by congr 1; omega, rfl⟩
  case round =>
    obtain ⟨i, h1, h2, rfl, hw⟩ := hrel
    obtain rfl := hw.out
    have d0 : decide (0 ≤ (i : Int)) = true := by rw [decide_eq_true_iff]; omega
    obtain ⟨x, hx⟩ : ∃ x, s.data.toList.getD i 0 = x := ⟨_, rfl⟩
    have hix := run_str_at (P := Tryz.prog) s 9 Tryz.underlying9 .i64 (i : Int) i rfl h2 x hx.symm
    by_cases he : i = n
    · subst he
      obtain rfl : c = x := HH.out.symm.trans hx
      have d1 : ((c.toNat : Int) == (c.toNat : Int)) = true := beq_self_eq_true _
      clear hx
      go_wp2_with fail
      go_ret
      exact ⟨rfl, rfl⟩
    · have hne := HM.out i (by omega) h2
      rw [hx] at hne
      have d1 : ((x.toNat : Int) == (c.toNat : Int)) = false := by
        rw [beq_eq_false_iff_ne]
        intro e2
        exact hne (UInt8.toNat_inj.mp (by omega))
      have hsum : IntKind.i64.wrap ((i : Int) - 1) = (i : Int) - 1 := IntWalk.i64_in _ (by omega)
      clear hx hne
      go_wp2_with fail
      go_roundw
      case rel => exact ⟨i - 1, by omega, by omega, by congr 1; omega, trivial⟩
      case measure => simp [intOf]; omega
theorem lastIdx_any (s : ByteArray) (hs : s.size ≤ 1000000) (c : UInt8) (X v : List UInt8) (h : s.data.toList = X ++ c :: v) (hv : c ∉ v) (w : World) :
    Calls Tryz.prog 125 #[.string s, .int .u8 (c.toNat : Int)] w fun e w' => e = .returned (.int .i64 (X.length : Int)) ∧ w = w' := by
  have H := Lib.hid (lastIdx_inner s hs c X v h hv)
  obtain ⟨n, hn⟩ : ∃ n, X.length = n := ⟨_, rfl⟩
  rw [hn] at H ⊢
  clear h hv hn hs
  go_enter Tryz.func125, Tryz.ntmps125
  go_wp2_with fail
  refine (H.out _).mono ?_
  rintro e w1 ⟨rfl, rfl⟩
  go_wp2_with fail
  go_ret
  exact ⟨rfl, rfl⟩
end Go.Proofs.YtlmbcclggaflaaaGreatDoor
namespace Go.Proofs.YtlmbcclggaflaaaGreatDoor
open Go Go.RowKit

set_option maxRecDepth 100000 in
set_option maxHeartbeats 1000000 in
theorem readCrash_bad (s : ByteArray) (hs : s.size ≤ 100000) (B b0 : Nat) (k a b : Int) (x v : ByteArray) (m : Int) (w0 w : World) (he : Env m w) (h : OpBox w B k a b x v) (hB : b0 ≤ B) (hw : Below b0 w0 w) (hz : b0 ≤ w.heap.size) (hg : ¬ goodP s) :
    Calls Tryz.prog 101 #[.string s, .pointer (some ⟨B, 0, none⟩)] w (readsO b0 w0 B k a b x v) := by
  obtain ⟨e1, e2, e3, e4⟩ := p_bad hg
  have hp := parse_any s (by omega) m w he.1 he.2.1 he.2.2
  unfold parsePost at hp
  rw [e1, e2, e3, e4] at hp
  have HP := Lib.hid hp
  have HB := Lib.hid h
  have HW := Lib.hid hw
  have HZ := Lib.hid hz
  clear e1 e2 e3 e4 hp h hw hz he hg hs
  go_enter Tryz.func101, Tryz.ntmps101
  go_wp2_with fail
  refine HP.out.mono ?_
  rintro e w1 ⟨⟨s1, rfl, hn1⟩, b1⟩
  obtain ⟨p1, c1, rfl⟩ := ownsRow_slice hn1
  clear hn1
  obtain ⟨n1, hn⟩ : ∃ n1, ([] : List Int).length = n1 := ⟨_, rfl⟩
  rw [hn]
  have a2 := (Below.refl w1.heap.size w1).alloc (Nat.le_refl _) (.cells #[.int .i64 0, .bool false, .slice p1 n1 c1] 38)
  have H2 := Lib.hid ((HB.out.below b1).below a2)
  have W2 := Lib.hid ((HW.out.trans (b1.mono HZ.out)).trans (a2.mono (Nat.le_trans HZ.out b1.size)))
  clear hn a2 b1 HB HW
  go_wp2_with fail
  go_end0
  exact ⟨rfl, H2.out, W2.out⟩
set_option maxRecDepth 100000 in
set_option maxHeartbeats 1000000 in
theorem readCrash_no (s : ByteArray) (hs : s.size ≤ 100000) (B b0 : Nat) (k a b : Int) (x v : ByteArray) (m : Int) (w0 w : World) (he : Env m w) (h : OpBox w B k a b x v) (hB : b0 ≤ B) (hw : Below b0 w0 w) (hz : b0 ≤ w.heap.size) (hg : goodP s) (hd : pD s = false) :
    Calls Tryz.prog 101 #[.string s, .pointer (some ⟨B, 0, none⟩)] w (readsO b0 w0 B k (pA s) b x (pack (keepT (kepL s)))) := by
  obtain ⟨e1, e2, e3, e4⟩ := p_good hg
  obtain ⟨hpl, ht⟩ := text_good hg
  rw [textB_eq] at ht
  obtain ⟨X, hX⟩ : ∃ X, X = dS (numN (w3 s 0) : Int) ++ 32 :: [if decide (w3 s 1 = yS) = true then (121 : UInt8) else 110] := ⟨_, rfl⟩
  have hcut : s.data.toList = X ++ 32 :: keepT (kepL s) := by
    rw [ht, hX]
    simp
  have hli := lastIdx_any s (by omega) 32 X (keepT (kepL s)) hcut (keepT_no _)
  have hsz : s.size = X.length + 1 + (keepT (kepL s)).length := by
    rw [← str_len, hcut, List.length_append, List.length_cons]
    omega
  obtain ⟨n, hn⟩ : ∃ n, X.length = n := ⟨_, rfl⟩
  rw [hn] at hli hsz
  obtain ⟨V, hV⟩ : ∃ V, pack (keepT (kepL s)) = V := ⟨_, rfl⟩
  have isl : ∀ wx, (Instr.slice 9 (.string s) (some (.int .i64 ((n : Int) + 1))) none none).run Tryz.prog wx = .ok (.string V) wx := fun wx => by
    rw [run_slice_string_l wx 9 s Tryz.underlying9 .i64 ((n : Int) + 1) (by omega) (by omega), show ((n : Int) + 1).toNat = n + 1 by omega, ext_from, hcut, ← hV, ← hn]
    simp
  have hsum : IntKind.i64.wrap ((n : Int) + 1) = (n : Int) + 1 := IntWalk.i64_in _ (by omega)
  have hp := parse_any s (by omega) m w he.1 he.2.1 he.2.2
  unfold parsePost at hp
  obtain ⟨A, hA⟩ : ∃ A, pA s = A := ⟨_, rfl⟩
  obtain ⟨L, hL⟩ : ∃ L, pL s = L := ⟨_, rfl⟩
  rw [hA, hd, hL, e4] at hp
  rw [hA, hV]
  have HP := Lib.hid hp
  have HLI := Lib.hid hli
  have HB := Lib.hid h
  have HBB := Lib.hid hB
  have HW := Lib.hid hw
  have HZ := Lib.hid hz
  clear e1 e2 e3 e4 hp h hw hz he hg hs hB hcut hli hsz hV hn ht hX hpl hA hL hd
  go_enter Tryz.func101, Tryz.ntmps101
  go_wp2_with fail
  refine HP.out.mono ?_
  rintro e w1 ⟨⟨s1, rfl, hn1⟩, b1⟩
  obtain ⟨p1, c1, rfl⟩ := ownsRow_slice hn1
  clear hn1
  obtain ⟨n1, hn⟩ : ∃ n1, L.length = n1 := ⟨_, rfl⟩
  rw [hn]
  have a2 := (Below.refl w1.heap.size w1).alloc (Nat.le_refl _) (.cells #[.int .i64 A, .bool false, .slice p1 n1 c1] 38)
  have H2 := Lib.hid ((HB.out.below b1).below a2)
  have W2 := Lib.hid ((HW.out.trans (b1.mono HZ.out)).trans (a2.mono (Nat.le_trans HZ.out b1.size)))
  have HQ := Lib.hid (PlanAt.new w1 A false (.slice p1 n1 c1) 38)
  have HN : Hid (B ≠ w1.heap.size) := Nat.ne_of_lt (HB.out.below b1).lt
  clear hn a2 b1 HB HW
  go_upto_region 2 with fail
  generalize (w1.alloc (.cells #[.int .i64 A, .bool false, .slice p1 n1 c1] 38)) = w2 at *
  obtain ⟨F, hF⟩ : ∃ F, w1.heap.size = F := ⟨_, rfl⟩
  rw [hF] at HQ HN
  rw [hF]
  clear hF
  obtain ⟨⟨q0, q1, q2⟩, qf⟩ := HQ.out
  obtain ⟨⟨h0, h1, h2, h3, h4⟩, hf⟩ := H2.out
  have hf1 := hf 1
  clear qf hf
  have H3 := Lib.hid (H2.out.set1 A)
  have W3 := Lib.hid (below_set W2.out B HBB.out 1 (.int .i64 A))
  have HQ3 := Lib.hid (HQ.out.block (Below.heap_setCell w2 ⟨B, 1, none⟩ (.int .i64 A) F (fun e => HN.out e.symm)))
  go_upto_region 3 with fail
  generalize w2.setCell ⟨B, 1, none⟩ (.int .i64 A) = w3 at *
  clear q0 q1 q2 h0 h1 h2 h3 h4 hf1 H2 W2 HQ
  obtain ⟨⟨q0, q1, q2⟩, qf⟩ := HQ3.out
  obtain ⟨⟨h0, h1, h2, h3, h4⟩, hf⟩ := H3.out
  have hf2 := hf 2
  have hf4 := hf 4
  clear qf hf
  go_wp2_with fail
  refine (HLI.out _).mono ?_
  rintro e w4 ⟨rfl, rfl⟩
  have H4 := Lib.hid (H3.out.set4 V)
  have W4 := Lib.hid (below_set W3.out B HBB.out 4 (.string V))
  go_wp2_with fail
  go_end0
  exact ⟨rfl, H4.out, W4.out⟩
set_option maxRecDepth 100000 in
set_option maxHeartbeats 1000000 in
theorem readCrash_yes (s : ByteArray) (hs : s.size ≤ 100000) (B b0 : Nat) (k a b : Int) (x v : ByteArray) (m : Int) (w0 w : World) (he : Env m w) (h : OpBox w B k a b x v) (hB : b0 ≤ B) (hw : Below b0 w0 w) (hz : b0 ≤ w.heap.size) (hg : goodP s) (hd : pD s = true) :
    Calls Tryz.prog 101 #[.string s, .pointer (some ⟨B, 0, none⟩)] w (readsO b0 w0 B k (pA s) 1 x (pack (keepT (kepL s)))) := by
  obtain ⟨e1, e2, e3, e4⟩ := p_good hg
  obtain ⟨hpl, ht⟩ := text_good hg
  rw [textB_eq] at ht
  obtain ⟨X, hX⟩ : ∃ X, X = dS (numN (w3 s 0) : Int) ++ 32 :: [if decide (w3 s 1 = yS) = true then (121 : UInt8) else 110] := ⟨_, rfl⟩
  have hcut : s.data.toList = X ++ 32 :: keepT (kepL s) := by
    rw [ht, hX]
    simp
  have hli := lastIdx_any s (by omega) 32 X (keepT (kepL s)) hcut (keepT_no _)
  have hsz : s.size = X.length + 1 + (keepT (kepL s)).length := by
    rw [← str_len, hcut, List.length_append, List.length_cons]
    omega
  obtain ⟨n, hn⟩ : ∃ n, X.length = n := ⟨_, rfl⟩
  rw [hn] at hli hsz
  obtain ⟨V, hV⟩ : ∃ V, pack (keepT (kepL s)) = V := ⟨_, rfl⟩
  have isl : ∀ wx, (Instr.slice 9 (.string s) (some (.int .i64 ((n : Int) + 1))) none none).run Tryz.prog wx = .ok (.string V) wx := fun wx => by
    rw [run_slice_string_l wx 9 s Tryz.underlying9 .i64 ((n : Int) + 1) (by omega) (by omega), show ((n : Int) + 1).toNat = n + 1 by omega, ext_from, hcut, ← hV, ← hn]
    simp
  have hsum : IntKind.i64.wrap ((n : Int) + 1) = (n : Int) + 1 := IntWalk.i64_in _ (by omega)
  have hp := parse_any s (by omega) m w he.1 he.2.1 he.2.2
  unfold parsePost at hp
  obtain ⟨A, hA⟩ : ∃ A, pA s = A := ⟨_, rfl⟩
  obtain ⟨L, hL⟩ : ∃ L, pL s = L := ⟨_, rfl⟩
  rw [hA, hd, hL, e4] at hp
  rw [hA, hV]
  have HP := Lib.hid hp
  have HLI := Lib.hid hli
  have HB := Lib.hid h
  have HBB := Lib.hid hB
  have HW := Lib.hid hw
  have HZ := Lib.hid hz
  clear e1 e2 e3 e4 hp h hw hz he hg hs hB hcut hli hsz hV hn ht hX hpl hA hL hd
  go_enter Tryz.func101, Tryz.ntmps101
  go_wp2_with fail
  refine HP.out.mono ?_
  rintro e w1 ⟨⟨s1, rfl, hn1⟩, b1⟩
  obtain ⟨p1, c1, rfl⟩ := ownsRow_slice hn1
  clear hn1
  obtain ⟨n1, hn⟩ : ∃ n1, L.length = n1 := ⟨_, rfl⟩
  rw [hn]
  have a2 := (Below.refl w1.heap.size w1).alloc (Nat.le_refl _) (.cells #[.int .i64 A, .bool true, .slice p1 n1 c1] 38)
  have H2 := Lib.hid ((HB.out.below b1).below a2)
  have W2 := Lib.hid ((HW.out.trans (b1.mono HZ.out)).trans (a2.mono (Nat.le_trans HZ.out b1.size)))
  have HQ := Lib.hid (PlanAt.new w1 A true (.slice p1 n1 c1) 38)
  have HN : Hid (B ≠ w1.heap.size) := Nat.ne_of_lt (HB.out.below b1).lt
  clear hn a2 b1 HB HW
  go_upto_region 2 with fail
  generalize (w1.alloc (.cells #[.int .i64 A, .bool true, .slice p1 n1 c1] 38)) = w2 at *
  obtain ⟨F, hF⟩ : ∃ F, w1.heap.size = F := ⟨_, rfl⟩
  rw [hF] at HQ HN
  rw [hF]
  clear hF
  obtain ⟨⟨q0, q1, q2⟩, qf⟩ := HQ.out
  obtain ⟨⟨h0, h1, h2, h3, h4⟩, hf⟩ := H2.out
  have hf1 := hf 1
  clear qf hf
  have H3 := Lib.hid (H2.out.set1 A)
  have W3 := Lib.hid (below_set W2.out B HBB.out 1 (.int .i64 A))
  have HQ3 := Lib.hid (HQ.out.block (Below.heap_setCell w2 ⟨B, 1, none⟩ (.int .i64 A) F (fun e => HN.out e.symm)))
  go_upto_region 3 with fail
  generalize w2.setCell ⟨B, 1, none⟩ (.int .i64 A) = w3 at *
  clear q0 q1 q2 h0 h1 h2 h3 h4 hf1 H2 W2 HQ
  obtain ⟨⟨q0, q1, q2⟩, qf⟩ := HQ3.out
  obtain ⟨⟨h0, h1, h2, h3, h4⟩, hf⟩ := H3.out
  have hf2 := hf 2
  have hf4 := hf 4
  clear qf hf
  have H5 := Lib.hid (H3.out.set2 1)
  have W5 := Lib.hid (below_set W3.out B HBB.out 2 (.int .i64 1))
  go_upto_region 5 with fail
  generalize w3.setCell ⟨B, 2, none⟩ (.int .i64 1) = w5 at *
  clear q0 q1 q2 h0 h1 h2 h3 h4 hf2 hf4 H3 W3 HQ3
  obtain ⟨⟨h0, h1, h2, h3, h4⟩, hf⟩ := H5.out
  have hf4 := hf 4
  clear hf
  go_wp2_with fail
  refine (HLI.out _).mono ?_
  rintro e w4 ⟨rfl, rfl⟩
  have H4 := Lib.hid (H5.out.set4 V)
  have W4 := Lib.hid (below_set W5.out B HBB.out 4 (.string V))
  go_wp2_with fail
  go_end0
  exact ⟨rfl, H4.out, W4.out⟩
end Go.Proofs.YtlmbcclggaflaaaGreatDoor
namespace Go.Proofs.YtlmbcclggaflaaaGreatDoor
open Go Go.RowKit

set_option maxRecDepth 100000 in
theorem wordIs_any (x word : ByteArray) (f g : Value) (C : Nat) (y : Bool) (hy : (x.toList == word.toList) = y) (w : World) (hc : w.cell? ⟨C, 0, none⟩ = some (.string word)) :
    Calls Tryz.prog 70 #[.agg #[.string x, f, g], .pointer (some ⟨C, 0, none⟩)] w fun e w' => e = .returned (.bool y) ∧ Below w.heap.size w w' := by
  have c1 := (Below.refl w.heap.size w).alloc (Nat.le_refl _) (.cells #[.string x, f, g] 90)
  have h1 := cell_kept hc c1
  clear hc
  go_enter Tryz.func70, Tryz.ntmps70
  go_wp2_with fail
  go_ret
  exact ⟨rfl, c1⟩
def idxP (l : List UInt8) (K : Int) : Prop := (∃ j : Nat, j < 9 ∧ K = j ∧ wordL (j : Int) = l) ∨ (K = -1 ∧ ∀ j : Nat, j < 9 → wordL (j : Int) ≠ l)
theorem str_ne {x y : ByteArray} (h : x.data.toList ≠ y.data.toList) : (x.toList == y.toList) = false := by
  rw [ByteArray.toList_eq, ByteArray.toList_eq]
  exact beq_false_of_ne h
theorem str_same {x y : ByteArray} (h : x.data.toList = y.data.toList) : (x.toList == y.toList) = true := by
  rw [ByteArray.toList_eq, ByteArray.toList_eq, h]
  exact beq_self_eq_true _
set_option maxRecDepth 100000 in
set_option maxHeartbeats 2000000 in
theorem idxShapes_any (S o C : Nat) (word : ByteArray) (w : World) (hrow : ∀ i : Nat, i < 9 → ∃ f g, w.cell? ⟨S, o + i * 3, none⟩ = some (.string (pack (wordL (i : Int)))) ∧ w.cell? ⟨S, o + i * 3 + 1, none⟩ = some f ∧ w.cell? ⟨S, o + i * 3 + 2, none⟩ = some g) (hc : w.cell? ⟨C, 0, none⟩ = some (.string word)) :
    Calls Tryz.prog 68 #[.slice (some ⟨S, o, none⟩) 9 9, .func (.func 70) #[] #[.pointer (some ⟨C, 0, none⟩)]] w fun e w' => (∃ K, e = .returned (.int .i64 K) ∧ idxP word.data.toList K) ∧ Below w.heap.size w w' := by
  have HR := Lib.hid hrow
  have HC := Lib.hid hc
  clear hrow hc
  go_enter Tryz.func68, Tryz.ntmps68
  go_wp2_with fail
  go_loopw [5, 8] (fun _ s8 wr => ∃ i : Nat, i ≤ 9 ∧ s8 = .int .i64 i ∧ Hid (∀ j : Nat, j < i → wordL (j : Int) ≠ word.data.toList) ∧ Hid (Below w.heap.size w wr)) (fun _ s8 _ => 9 - (intOf s8).toNat)
  case atStart => exact ⟨0, by decide, rfl, fun j hj => absurd hj (Nat.not_lt_zero _), Below.refl _ _⟩
  case round =>
    obtain ⟨i, hi, rfl, hA, hB⟩ := hrel
    by_cases hlt : i < 9
    · obtain ⟨f, g, e0, e1, e2⟩ := HR.out i hlt
      replace e0 := cell_kept e0 hB.out
      replace e1 := cell_kept e1 hB.out
      replace e2 := cell_kept e2 hB.out
      have hcw := cell_kept HC.out hB.out
      obtain ⟨X, hX⟩ : ∃ X, pack (wordL (i : Int)) = X := ⟨_, rfl⟩
      rw [hX] at e0
      obtain ⟨y, hy⟩ : ∃ y, (X.toList == word.toList) = y := ⟨_, rfl⟩
      have HCL := Lib.hid (wordIs_any X word f g C y hy wr hcw)
      have HXL : Hid (X.data.toList = wordL (i : Int)) := by
        show _ = _
        rw [← hX, pack_data]
      have HY := Lib.hid hy
      clear hy hcw hX
      cases y with
      | true =>
        have HW : Hid (wordL (i : Int) = word.data.toList) := by
          have h := HY.out
          rw [beq_iff_eq, ByteArray.toList_eq, ByteArray.toList_eq, HXL.out] at h
          exact h
        go_wp2_with fail
        refine HCL.out.mono ?_
        rintro e w2 ⟨rfl, b2⟩
        have c2 := hB.out.trans (b2.mono hB.out.size)
        go_wp2_with fail
        go_ret
        exact ⟨⟨_, rfl, Or.inl ⟨i, hlt, rfl, HW.out⟩⟩, c2⟩
      | false =>
        have HW : Hid (∀ j : Nat, j < i + 1 → wordL (j : Int) ≠ word.data.toList) := by
          intro j hj
          by_cases e : j = i
          · subst e
            intro e2
            have h := HY.out
            rw [str_same (by rw [HXL.out, e2])] at h
            cases h
          · exact hA.out j (by omega)
        have hsum : IntKind.i64.wrap ((i : Int) + 1) = (i : Int) + 1 := IntWalk.i64_in _ (by omega)
        go_wp2_with fail
        refine HCL.out.mono ?_
        rintro e w2 ⟨rfl, b2⟩
        have c2 := Lib.hid (hB.out.trans (b2.mono hB.out.size))
        go_wp2_with fail
        go_roundw
        case rel => exact ⟨i + 1, by omega, by go_num, HW, c2⟩
        case measure => simp [intOf]; omega
    · obtain rfl : i = 9 := by omega
      go_wp2_with fail
      go_ret
      exact ⟨⟨_, rfl, Or.inr ⟨rfl, hA.out⟩⟩, hB.out⟩
theorem shapes_rows (w : World) (S : Nat) (hS : w.heap.size = S) : ∀ i : Nat, i < 9 → ∃ f g, (w.alloc (.cells shCells 90)).cell? ⟨S, 0 + i * 3, none⟩ = some (.string (pack (wordL (i : Int)))) ∧ (w.alloc (.cells shCells 90)).cell? ⟨S, 0 + i * 3 + 1, none⟩ = some f ∧ (w.alloc (.cells shCells 90)).cell? ⟨S, 0 + i * 3 + 2, none⟩ = some g := by
  subst hS
  intro i hi
  match i, hi with
  | 0, _ => exact ⟨_, _, new_cell shCells _ 0 _ rfl, new_cell shCells _ 1 _ rfl, new_cell shCells _ 2 _ rfl⟩
  | 1, _ => exact ⟨_, _, new_cell shCells _ 3 _ rfl, new_cell shCells _ 4 _ rfl, new_cell shCells _ 5 _ rfl⟩
  | 2, _ => exact ⟨_, _, new_cell shCells _ 6 _ rfl, new_cell shCells _ 7 _ rfl, new_cell shCells _ 8 _ rfl⟩
  | 3, _ => exact ⟨_, _, new_cell shCells _ 9 _ rfl, new_cell shCells _ 10 _ rfl, new_cell shCells _ 11 _ rfl⟩
  | 4, _ => exact ⟨_, _, new_cell shCells _ 12 _ rfl, new_cell shCells _ 13 _ rfl, new_cell shCells _ 14 _ rfl⟩
  | 5, _ => exact ⟨_, _, new_cell shCells _ 15 _ rfl, new_cell shCells _ 16 _ rfl, new_cell shCells _ 17 _ rfl⟩
  | 6, _ => exact ⟨_, _, new_cell shCells _ 18 _ rfl, new_cell shCells _ 19 _ rfl, new_cell shCells _ 20 _ rfl⟩
  | 7, _ => exact ⟨_, _, new_cell shCells _ 21 _ rfl, new_cell shCells _ 22 _ rfl, new_cell shCells _ 23 _ rfl⟩
  | 8, _ => exact ⟨_, _, new_cell shCells _ 24 _ rfl, new_cell shCells _ 25 _ rfl, new_cell shCells _ 26 _ rfl⟩
theorem idx_kind {l : List UInt8} {K : Int} (h : idxP l K) : (1 ≤ K ∧ K ≤ 8 ∧ kindL l = K) ∨ (K < 1 ∧ kindL l = 0) := by
  rcases h with ⟨j, hj, rfl, hw⟩ | ⟨rfl, hn⟩
  · by_cases h0 : j = 0
    · subst h0
      refine Or.inr ⟨by decide, ?_⟩
      rw [← hw]
      decide
    · refine Or.inl ⟨by omega, by omega, ?_⟩
      rw [← hw]
      exact kind_word _ (by omega) (by omega)
  · refine Or.inr ⟨by decide, ?_⟩
    unfold kindL
    rw [if_neg fun e => hn 1 (by decide) e.symm, if_neg fun e => hn 2 (by decide) e.symm, if_neg fun e => hn 3 (by decide) e.symm, if_neg fun e => hn 4 (by decide) e.symm, if_neg fun e => hn 5 (by decide) e.symm, if_neg fun e => hn 6 (by decide) e.symm, if_neg fun e => hn 7 (by decide) e.symm, if_neg fun e => hn 8 (by decide) e.symm]
end Go.Proofs.YtlmbcclggaflaaaGreatDoor
namespace Go.Proofs.YtlmbcclggaflaaaGreatDoor
open Go Go.RowKit

/-- What of finds: the functions of a kind. -/
def wF (K : Int) : Value := if K = 1 then .func (.func 94) #[] #[] else if K = 2 ∨ K = 3 then .func (.func 96) #[] #[] else if K = 6 then .func (.func 98) #[] #[] else if K = 7 then .func (.func 100) #[] #[] else .nilFunc
def rF (K : Int) : Value := if K = 1 then .func (.func 95) #[] #[] else if K = 2 ∨ K = 3 then .func (.func 97) #[] #[] else if K = 6 then .func (.func 99) #[] #[] else if K = 7 then .func (.func 101) #[] #[] else .nilFunc
def okB (K : Int) : Bool := decide (1 ≤ K ∧ K ≤ 8)
def rB (K : Int) : Bool := decide (K = 1 ∨ K = 2 ∨ K = 3 ∨ K = 6 ∨ K = 7)
theorem of_any (K : Int) (w : World) :
    Calls Tryz.prog 53 #[.int .i64 K] w fun e w' => e = .returned (.tuple #[.agg #[.string (pack (wordL K)), wF K, rF K], .bool (okB K)]) ∧ Below w.heap.size w w' := by
  by_cases hk : K < 1 ∨ 8 < K
  · have e1 : pack (wordL K) = ⟨#[]⟩ := by
      unfold wordL
      rw [if_neg (by omega), if_neg (by omega), if_neg (by omega), if_neg (by omega), if_neg (by omega), if_neg (by omega), if_neg (by omega), if_neg (by omega)]
      rfl
    have e2 : wF K = .nilFunc := by
      unfold wF
      rw [if_neg (by omega), if_neg (by omega), if_neg (by omega), if_neg (by omega)]
    have e3 : rF K = .nilFunc := by
      unfold rF
      rw [if_neg (by omega), if_neg (by omega), if_neg (by omega), if_neg (by omega)]
    have e4 : okB K = false := decide_eq_false (by omega)
    rw [e1, e2, e3, e4]
    exact of_bad K hk w
  · rcases (show K = 1 ∨ K = 2 ∨ K = 3 ∨ K = 4 ∨ K = 5 ∨ K = 6 ∨ K = 7 ∨ K = 8 by omega) with rfl | rfl | rfl | rfl | rfl | rfl | rfl | rfl
    · exact of_put w
    · exact of_get w
    · exact of_delete w
    · exact of_sync w
    · exact of_step w
    · exact of_policy w
    · exact of_crash w
    · exact of_reopen w
theorem rfunc_ne (d f : Nat) (w : World) : (Op.equalIn (d + 1) 88 (.func (.func f) #[] #[]) .nilFunc).run Tryz.prog w = .ok false w := by
  simp [Op.equalIn, run_underlying Tryz.underlying88]
theorem rnil_eq (d : Nat) (w : World) : (Op.equalIn (d + 1) 88 .nilFunc .nilFunc).run Tryz.prog w = .ok true w := by
  simp [Op.equalIn, run_underlying Tryz.underlying88]
theorem rfunc_some (f : Nat) : ∀ w, (binOp .neq 88 (.func (.func f) #[] #[]) .nilFunc).run Tryz.prog w = .ok (.bool true) w := by
  intro w
  have h := rfunc_ne 9999 f w
  simp only [binOp]
  simp [Op.equal, Op.maxDepth, h]
theorem rfunc_nil : ∀ w, (binOp .neq 88 .nilFunc .nilFunc).run Tryz.prog w = .ok (.bool false) w := by
  intro w
  have h := rnil_eq 9999 w
  simp only [binOp]
  simp [Op.equal, Op.maxDepth, h]
theorem rF_test (K : Int) : ∀ w, (binOp .neq 88 (rF K) .nilFunc).run Tryz.prog w = .ok (.bool (rB K)) w := by
  intro w
  by_cases h : K = 1 ∨ K = 2 ∨ K = 3 ∨ K = 6 ∨ K = 7
  · rw [show rB K = true from decide_eq_true h]
    rcases h with rfl | rfl | rfl | rfl | rfl
    all_goals exact rfunc_some _ w
  · rw [show rB K = false from decide_eq_false h, show rF K = .nilFunc by
      unfold rF
      rw [if_neg (by omega), if_neg (by omega), if_neg (by omega), if_neg (by omega)]]
    exact rfunc_nil w
theorem rF_guard (K : Int) : ∀ (x y : Operand) (w : World), (eqGuard .neq 88 x y (rF K) .nilFunc).run Tryz.prog w = .ok () w := by
  intro x y w
  by_cases h : K = 1 ∨ K = 2 ∨ K = 3 ∨ K = 6 ∨ K = 7
  · rcases h with rfl | rfl | rfl | rfl | rfl
    all_goals simp [rF, eqGuard]
  · rw [show rF K = .nilFunc by
      unfold rF
      rw [if_neg (by omega), if_neg (by omega), if_neg (by omega), if_neg (by omega)]]
    simp [eqGuard]
theorem rB_ok {K : Int} (h : okB K = false) : rB K = false := by
  have : ¬ (1 ≤ K ∧ K ≤ 8) := of_decide_eq_false h
  exact decide_eq_false (by omega)
theorem zero_fit : -9223372036854775808 ≤ (0 : Int) ∧ (0 : Int) ≤ 9223372036854775807 := by decide
theorem parseV_len (l : List UInt8) : (parseV l).1.length ≤ 512 := by
  unfold parseV
  split
  · simp
  · split
    · simp
    · cases unhex l with
      | none => simp
      | some t =>
        show ((if 512 < t.length then (([] : List UInt8), (12 : Int)) else (t, 0))).1.length ≤ 512
        split
        · simp
        · show t.length ≤ 512
          omega
theorem ext_of {l : List UInt8} {o : OpD} (h : extP l = o) : Ext l o := by rw [← h]; exact extP_ext l
theorem pack_le {l : List UInt8} {n : Nat} (h : l.length ≤ n) : (pack l).size ≤ n := by rw [pack_size]; exact h
theorem keepT_short {s : ByteArray} (hg : goodP s) : (keepT (kepL s)).length ≤ 1000 := by
  have h := planOK_parts (text_good hg).1
  have := keepT_len (kepL s) 34 (fun k hk => by have := (h.2.2.2.2 k hk).2; omega) h.2.2.2.1
  omega
set_option maxRecDepth 100000 in
set_option maxHeartbeats 4000000 in
theorem parse39_any (s : ByteArray) (hs : s.size ≤ 100000) (m : Int) (w : World) (he : Env m w) :
    Calls Tryz.prog 28 #[.string s] w fun e w' => e = .returned (.tuple #[opV (opP s.data.toList), .int .i64 (opPE s.data.toList)]) ∧ Below w.heap.size w w' := by
  have HS := Lib.hid hs
  have HE := Lib.hid he
  obtain ⟨X, hX⟩ : ∃ X, pack (hdL 32 s.data.toList) = X := ⟨_, rfl⟩
  obtain ⟨R, hR⟩ : ∃ R, pack (tlL 32 s.data.toList) = R := ⟨_, rfl⟩
  have hcut := cut_sp s (by omega) m
  rw [hX, hR] at hcut
  have HCUT := Lib.hid hcut
  have HXR := Lib.hid (And.intro hX hR)
  clear hcut hX hR hs he
  have c0 := Lib.hid ((Below.refl w.heap.size w).alloc (Nat.le_refl _) (.cells #[.int .i64 0, .int .i64 0, .int .i64 0, .string ⟨#[]⟩, .string ⟨#[]⟩] 28))
  have HR0 := Lib.hid (OpBox.new w 0 0 0 ⟨#[]⟩ ⟨#[]⟩ 28)
  go_enter Tryz.func28, Tryz.ntmps28
  go_wp2_with fail
  generalize (w.alloc (.cells #[.int .i64 0, .int .i64 0, .int .i64 0, .string ⟨#[]⟩, .string ⟨#[]⟩] 28)) = w0 at *
  refine (HCUT.out _ (HE.out.below c0.out).2.2).mono ?_
  rintro e w1 ⟨⟨bb, rfl⟩, b1⟩
  have a2 := (Below.refl w1.heap.size w1).alloc (Nat.le_refl _) (.cells #[.string X] 9)
  have hcw : (w1.alloc (.cells #[.string X] 9)).cell? ⟨w1.heap.size, 0, none⟩ = some (.string X) := new_cell (w := w1) #[.string X] 9 0 _ rfl
  have HR2 := Lib.hid ((HR0.out.below b1).below a2)
  have c2 := Lib.hid ((c0.out.trans (b1.mono c0.out.size)).trans (a2.mono (Nat.le_trans c0.out.size b1.size)))
  clear a2 b1 HR0 c0
  go_wp2_with fail
  generalize (w1.alloc (.cells #[.string X] 9)) = w2 at *
  obtain ⟨C, hC⟩ : ∃ C, w1.heap.size = C := ⟨_, rfl⟩
  rw [hC] at hcw
  rw [hC]
  clear hC
  refine (shapes_any _).mono ?_
  rintro e w3 ⟨rfl, rfl⟩
  have a3 := (Below.refl w2.heap.size w2).alloc (Nat.le_refl _) (.cells shCells 90)
  have hrows := shapes_rows w2 w2.heap.size rfl
  have hcw3 := cell_kept hcw a3
  have HR3 := Lib.hid (HR2.out.below a3)
  have c3 := Lib.hid (c2.out.trans (a3.mono c2.out.size))
  have hidx := Lib.hid (idxShapes_any w2.heap.size 0 C X _ hrows hcw3)
  clear hrows a3 hcw hcw3 HR2 c2
  go_wp2_with fail
  generalize (w2.alloc (.cells shCells 90)) = w4 at *
  refine hidx.out.mono ?_
  rintro e w5 ⟨⟨K, rfl, hK⟩, b5⟩
  have HK := Lib.hid hK
  have a6 := (Below.refl w5.heap.size w5).alloc (Nat.le_refl _) (.cells #[.int .i64 K, .int .i64 0, .int .i64 0, .string ⟨#[]⟩, .string ⟨#[]⟩] 28)
  have HO := Lib.hid (OpBox.new w5 K 0 0 ⟨#[]⟩ ⟨#[]⟩ 28)
  have HR6 := Lib.hid ((HR3.out.below b5).below a6)
  have c6 := Lib.hid ((c3.out.trans (b5.mono c3.out.size)).trans (a6.mono (Nat.le_trans c3.out.size b5.size)))
  have HLT : Hid (w.heap.size < w5.heap.size) := (HR3.out.below b5).lt
  clear hidx hK a6 b5 HR3 c3
  have HKI := Lib.hid (idx_kind HK.out)
  go_upto_region 3 with fail
  generalize (w5.alloc (.cells #[.int .i64 K, .int .i64 0, .int .i64 0, .string ⟨#[]⟩, .string ⟨#[]⟩] 28)) = w6 at *
  obtain ⟨B, hB⟩ : ∃ B, w5.heap.size = B := ⟨_, rfl⟩
  rw [hB] at HO HLT
  rw [hB]
  clear hB HK
  obtain ⟨rb, hrb⟩ : ∃ rb, rB K = rb := ⟨_, rfl⟩
  obtain ⟨okb, hokb⟩ : ∃ okb, okB K = okb := ⟨_, rfl⟩
  obtain ⟨F, hF⟩ : ∃ F, rF K = F := ⟨_, rfl⟩
  have htest := rF_test K
  have hguard := rF_guard K
  rw [hF, hrb] at htest
  rw [hF] at hguard
  have HOK : Hid (okb = false → rb = false) := by
    intro h
    rw [← hrb]
    exact rB_ok (by rw [hokb]; exact h)
  have HRB := Lib.hid (And.intro hrb hF)
  have HOB := Lib.hid hokb
  clear hrb hokb hF
  obtain ⟨⟨k0, k1, k2, k3, k4⟩, kf⟩ := HO.out
  clear kf k1 k2 k3 k4
  go_cut [8, 9] from 22 to 27 (fun p ok wx => ∃ D, p = .pointer (some ⟨D, 0, none⟩) ∧ ok = .bool okb ∧ Hid (wx.cell? ⟨D, 2, none⟩ = some F) ∧ Hid (OpBox wx B K 0 0 ⟨#[]⟩ ⟨#[]⟩) ∧ Hid (OpBox wx w.heap.size 0 0 0 ⟨#[]⟩ ⟨#[]⟩) ∧ Hid (Below w.heap.size w wx))
  case first =>
    by_cases hk : K < 1 ∨ 8 < K
    · obtain rfl : okb = false := by rw [← HOB.out]; exact decide_eq_false (by omega)
      obtain rfl : F = .nilFunc := by
        rw [← HRB.out.2]
        unfold rF
        rw [if_neg (by omega), if_neg (by omega), if_neg (by omega), if_neg (by omega)]
      have HKK := Lib.hid hk
      clear hk
      go_wp2_with fail
      refine (of_bad K HKK.out _).mono ?_
      rintro e w7 ⟨rfl, b7⟩
      have a8 := (Below.refl w7.heap.size w7).alloc (Nat.le_refl _) (.cells #[.string ⟨#[]⟩, .nilFunc, .nilFunc] 90)
      have s2 := new_cell (w := w7) #[.string ⟨#[]⟩, .nilFunc, .nilFunc] 90 2 _ rfl
      have HO8 := Lib.hid ((HO.out.below b7).below a8)
      have HR8 := Lib.hid ((HR6.out.below b7).below a8)
      have c8 := Lib.hid ((c6.out.trans (b7.mono c6.out.size)).trans (a8.mono (Nat.le_trans c6.out.size b7.size)))
      have S2 := Lib.hid s2
      clear a8 b7 s2
      go_wp2_with fail
      go_meet
      exact ⟨_, rfl, rfl, S2, HO8, HR8, c8⟩
    · rcases (show K = 1 ∨ K = 2 ∨ K = 3 ∨ K = 4 ∨ K = 5 ∨ K = 6 ∨ K = 7 ∨ K = 8 by omega) with rfl | rfl | rfl | rfl | rfl | rfl | rfl | rfl
      · skip
        obtain rfl : okb = true := by rw [← HOB.out]; rfl
        obtain rfl : F = .func (.func 95) #[] #[] := by rw [← HRB.out.2]; rfl
        go_wp2_with fail
        refine (of_put _).mono ?_
        rintro e w7 ⟨rfl, b7⟩
        have a8 := (Below.refl w7.heap.size w7).alloc (Nat.le_refl _) (.cells #[.string ⟨#[112, 117, 116]⟩, .func (.func 94) #[] #[], .func (.func 95) #[] #[]] 90)
        have s2 := new_cell (w := w7) #[.string ⟨#[112, 117, 116]⟩, .func (.func 94) #[] #[], .func (.func 95) #[] #[]] 90 2 _ rfl
        have HO8 := Lib.hid ((HO.out.below b7).below a8)
        have HR8 := Lib.hid ((HR6.out.below b7).below a8)
        have c8 := Lib.hid ((c6.out.trans (b7.mono c6.out.size)).trans (a8.mono (Nat.le_trans c6.out.size b7.size)))
        have S2 := Lib.hid s2
        clear a8 b7 s2
        go_wp2_with fail
        go_meet
        exact ⟨_, rfl, rfl, S2, HO8, HR8, c8⟩
      · skip
        obtain rfl : okb = true := by rw [← HOB.out]; rfl
        obtain rfl : F = .func (.func 97) #[] #[] := by rw [← HRB.out.2]; rfl
        go_wp2_with fail
        refine (of_get _).mono ?_
        rintro e w7 ⟨rfl, b7⟩
        have a8 := (Below.refl w7.heap.size w7).alloc (Nat.le_refl _) (.cells #[.string ⟨#[103, 101, 116]⟩, .func (.func 96) #[] #[], .func (.func 97) #[] #[]] 90)
        have s2 := new_cell (w := w7) #[.string ⟨#[103, 101, 116]⟩, .func (.func 96) #[] #[], .func (.func 97) #[] #[]] 90 2 _ rfl
        have HO8 := Lib.hid ((HO.out.below b7).below a8)
        have HR8 := Lib.hid ((HR6.out.below b7).below a8)
        have c8 := Lib.hid ((c6.out.trans (b7.mono c6.out.size)).trans (a8.mono (Nat.le_trans c6.out.size b7.size)))
        have S2 := Lib.hid s2
        clear a8 b7 s2
        go_wp2_with fail
        go_meet
        exact ⟨_, rfl, rfl, S2, HO8, HR8, c8⟩
      · skip
        obtain rfl : okb = true := by rw [← HOB.out]; rfl
        obtain rfl : F = .func (.func 97) #[] #[] := by rw [← HRB.out.2]; rfl
        go_wp2_with fail
        refine (of_delete _).mono ?_
        rintro e w7 ⟨rfl, b7⟩
        have a8 := (Below.refl w7.heap.size w7).alloc (Nat.le_refl _) (.cells #[.string ⟨#[100, 101, 108, 101, 116, 101]⟩, .func (.func 96) #[] #[], .func (.func 97) #[] #[]] 90)
        have s2 := new_cell (w := w7) #[.string ⟨#[100, 101, 108, 101, 116, 101]⟩, .func (.func 96) #[] #[], .func (.func 97) #[] #[]] 90 2 _ rfl
        have HO8 := Lib.hid ((HO.out.below b7).below a8)
        have HR8 := Lib.hid ((HR6.out.below b7).below a8)
        have c8 := Lib.hid ((c6.out.trans (b7.mono c6.out.size)).trans (a8.mono (Nat.le_trans c6.out.size b7.size)))
        have S2 := Lib.hid s2
        clear a8 b7 s2
        go_wp2_with fail
        go_meet
        exact ⟨_, rfl, rfl, S2, HO8, HR8, c8⟩
      · skip
        obtain rfl : okb = true := by rw [← HOB.out]; rfl
        obtain rfl : F = .nilFunc := by rw [← HRB.out.2]; rfl
        go_wp2_with fail
        refine (of_sync _).mono ?_
        rintro e w7 ⟨rfl, b7⟩
        have a8 := (Below.refl w7.heap.size w7).alloc (Nat.le_refl _) (.cells #[.string ⟨#[115, 121, 110, 99]⟩, .nilFunc, .nilFunc] 90)
        have s2 := new_cell (w := w7) #[.string ⟨#[115, 121, 110, 99]⟩, .nilFunc, .nilFunc] 90 2 _ rfl
        have HO8 := Lib.hid ((HO.out.below b7).below a8)
        have HR8 := Lib.hid ((HR6.out.below b7).below a8)
        have c8 := Lib.hid ((c6.out.trans (b7.mono c6.out.size)).trans (a8.mono (Nat.le_trans c6.out.size b7.size)))
        have S2 := Lib.hid s2
        clear a8 b7 s2
        go_wp2_with fail
        go_meet
        exact ⟨_, rfl, rfl, S2, HO8, HR8, c8⟩
      · skip
        obtain rfl : okb = true := by rw [← HOB.out]; rfl
        obtain rfl : F = .nilFunc := by rw [← HRB.out.2]; rfl
        go_wp2_with fail
        refine (of_step _).mono ?_
        rintro e w7 ⟨rfl, b7⟩
        have a8 := (Below.refl w7.heap.size w7).alloc (Nat.le_refl _) (.cells #[.string ⟨#[115, 116, 101, 112]⟩, .nilFunc, .nilFunc] 90)
        have s2 := new_cell (w := w7) #[.string ⟨#[115, 116, 101, 112]⟩, .nilFunc, .nilFunc] 90 2 _ rfl
        have HO8 := Lib.hid ((HO.out.below b7).below a8)
        have HR8 := Lib.hid ((HR6.out.below b7).below a8)
        have c8 := Lib.hid ((c6.out.trans (b7.mono c6.out.size)).trans (a8.mono (Nat.le_trans c6.out.size b7.size)))
        have S2 := Lib.hid s2
        clear a8 b7 s2
        go_wp2_with fail
        go_meet
        exact ⟨_, rfl, rfl, S2, HO8, HR8, c8⟩
      · skip
        obtain rfl : okb = true := by rw [← HOB.out]; rfl
        obtain rfl : F = .func (.func 99) #[] #[] := by rw [← HRB.out.2]; rfl
        go_wp2_with fail
        refine (of_policy _).mono ?_
        rintro e w7 ⟨rfl, b7⟩
        have a8 := (Below.refl w7.heap.size w7).alloc (Nat.le_refl _) (.cells #[.string ⟨#[112, 111, 108, 105, 99, 121]⟩, .func (.func 98) #[] #[], .func (.func 99) #[] #[]] 90)
        have s2 := new_cell (w := w7) #[.string ⟨#[112, 111, 108, 105, 99, 121]⟩, .func (.func 98) #[] #[], .func (.func 99) #[] #[]] 90 2 _ rfl
        have HO8 := Lib.hid ((HO.out.below b7).below a8)
        have HR8 := Lib.hid ((HR6.out.below b7).below a8)
        have c8 := Lib.hid ((c6.out.trans (b7.mono c6.out.size)).trans (a8.mono (Nat.le_trans c6.out.size b7.size)))
        have S2 := Lib.hid s2
        clear a8 b7 s2
        go_wp2_with fail
        go_meet
        exact ⟨_, rfl, rfl, S2, HO8, HR8, c8⟩
      · skip
        obtain rfl : okb = true := by rw [← HOB.out]; rfl
        obtain rfl : F = .func (.func 101) #[] #[] := by rw [← HRB.out.2]; rfl
        go_wp2_with fail
        refine (of_crash _).mono ?_
        rintro e w7 ⟨rfl, b7⟩
        have a8 := (Below.refl w7.heap.size w7).alloc (Nat.le_refl _) (.cells #[.string ⟨#[99, 114, 97, 115, 104]⟩, .func (.func 100) #[] #[], .func (.func 101) #[] #[]] 90)
        have s2 := new_cell (w := w7) #[.string ⟨#[99, 114, 97, 115, 104]⟩, .func (.func 100) #[] #[], .func (.func 101) #[] #[]] 90 2 _ rfl
        have HO8 := Lib.hid ((HO.out.below b7).below a8)
        have HR8 := Lib.hid ((HR6.out.below b7).below a8)
        have c8 := Lib.hid ((c6.out.trans (b7.mono c6.out.size)).trans (a8.mono (Nat.le_trans c6.out.size b7.size)))
        have S2 := Lib.hid s2
        clear a8 b7 s2
        go_wp2_with fail
        go_meet
        exact ⟨_, rfl, rfl, S2, HO8, HR8, c8⟩
      · skip
        obtain rfl : okb = true := by rw [← HOB.out]; rfl
        obtain rfl : F = .nilFunc := by rw [← HRB.out.2]; rfl
        go_wp2_with fail
        refine (of_reopen _).mono ?_
        rintro e w7 ⟨rfl, b7⟩
        have a8 := (Below.refl w7.heap.size w7).alloc (Nat.le_refl _) (.cells #[.string ⟨#[114, 101, 111, 112, 101, 110]⟩, .nilFunc, .nilFunc] 90)
        have s2 := new_cell (w := w7) #[.string ⟨#[114, 101, 111, 112, 101, 110]⟩, .nilFunc, .nilFunc] 90 2 _ rfl
        have HO8 := Lib.hid ((HO.out.below b7).below a8)
        have HR8 := Lib.hid ((HR6.out.below b7).below a8)
        have c8 := Lib.hid ((c6.out.trans (b7.mono c6.out.size)).trans (a8.mono (Nat.le_trans c6.out.size b7.size)))
        have S2 := Lib.hid s2
        clear a8 b7 s2
        go_wp2_with fail
        go_meet
        exact ⟨_, rfl, rfl, S2, HO8, HR8, c8⟩
  case rest =>
    obtain ⟨D, rfl, rfl, HS2, HO8, HR8, c8⟩ := hcut
    have s2 := HS2.out
    clear k0 HO HR6 c6
    go_upto_region 4 with fail
    go_cut [33] from 28 to 33 (fun a wx => a = .bool rb ∧ Hid (wx = wc))
    case first =>
      cases okb with
      | false =>
        obtain rfl : rb = false := HOK.out rfl
        go_wp2_with fail
        go_meet
        exact ⟨rfl, rfl⟩
      | true =>
        go_wp2_with fail
        go_meet
        exact ⟨rfl, rfl⟩
    case rest =>
      obtain ⟨rfl, hw⟩ := hcut
      obtain rfl := hw.out
      go_upto_if 33 with fail
      go_cut [] from 34 to 37 (fun wx => ∃ o : OpD, Hid (Ext s.data.toList o ∧ opFit o) ∧ Hid (OpBox wx B o.kind o.a o.b o.key o.val) ∧ Hid (OpBox wx w.heap.size 0 0 0 ⟨#[]⟩ ⟨#[]⟩) ∧ Hid (Below w.heap.size w wx))
      case first =>
        clear htest hguard
        have HRl : Hid (R.data.toList = tlL 32 s.data.toList) := by
          show _ = _
          rw [← HXR.out.2, pack_data]
        have HRs : Hid (R.size ≤ 100000) := by
          show _ ≤ _
          rw [← str_len, HRl.out]
          have h1 := tl_le 32 s.data.toList
          have h2 := HS.out
          rw [str_len] at h1
          omega
        have HXl : X.data.toList = hdL 32 s.data.toList := by rw [← HXR.out.1, pack_data]
        have hki := HKI.out
        rw [HXl] at hki
        have hBz : B ≤ wc.heap.size := Nat.le_of_lt HO8.out.lt
        have hRp : pack (tlL 32 s.data.toList) = R := HXR.out.2
        rcases hki with ⟨h1, h2, h3⟩ | ⟨h1, h3⟩
        · rcases (show K = 1 ∨ K = 2 ∨ K = 3 ∨ K = 4 ∨ K = 5 ∨ K = 6 ∨ K = 7 ∨ K = 8 by omega) with rfl | rfl | rfl | rfl | rfl | rfl | rfl | rfl
          · have HXO : Hid (Ext s.data.toList ⟨1, 0, 0, pack (hdL 32 R.data.toList), pack (parseV (tlL 32 R.data.toList)).1⟩ ∧ opFit ⟨1, 0, 0, pack (hdL 32 R.data.toList), pack (parseV (tlL 32 R.data.toList)).1⟩) := by
              refine ⟨ext_of ?_, zero_fit, pack_le ?_, pack_le ?_⟩
              · unfold extP
                rw [if_pos h3, HRl.out]
              · have h1 := hd_le 32 R.data.toList
                have h2 := HRs.out
                rw [str_len] at h1
                omega
              · have h1 := parseV_len (tlL 32 R.data.toList)
                omega
            obtain rfl : rb = true := by rw [← HRB.out.1]; rfl
            obtain rfl : F = .func (.func 95) #[] #[] := by rw [← HRB.out.2]; rfl
            go_wp2_with fail
            refine (readPut_any R HRs.out B B 1 0 0 ⟨#[]⟩ ⟨#[]⟩ m wc wc (HE.out.below c8.out) HO8.out (Nat.le_refl _) (Below.refl _ _) hBz).mono ?_
            rintro e w9 ⟨rfl, h9, b9⟩
            have c9 := Lib.hid (c8.out.trans (b9.mono (Nat.le_of_lt HLT.out)))
            have HR9 := Lib.hid (HR8.out.block (b9.block _ HLT.out))
            have H9 := Lib.hid h9
            clear h9 b9
            go_wp2_with fail
            go_meet
            exact ⟨⟨1, 0, 0, pack (hdL 32 R.data.toList), pack (parseV (tlL 32 R.data.toList)).1⟩, HXO, H9, HR9, c9⟩
          · skip
            have HXO : Hid (Ext s.data.toList ⟨2, 0, 0, R, eB⟩ ∧ opFit ⟨2, 0, 0, R, eB⟩) := by
              refine ⟨ext_of ?_, zero_fit, HRs.out, by show eB.size ≤ 100000; decide⟩
              unfold extP
              rw [h3, hRp]
              rfl
            obtain rfl : rb = true := by rw [← HRB.out.1]; rfl
            obtain rfl : F = .func (.func 97) #[] #[] := by rw [← HRB.out.2]; rfl
            go_wp2_with fail
            refine (readKey_any R B B 2 0 0 ⟨#[]⟩ ⟨#[]⟩ wc wc HO8.out (Nat.le_refl _) (Below.refl _ _)).mono ?_
            rintro e w9 ⟨rfl, h9, b9⟩
            have c9 := Lib.hid (c8.out.trans (b9.mono (Nat.le_of_lt HLT.out)))
            have HR9 := Lib.hid (HR8.out.block (b9.block _ HLT.out))
            have H9 := Lib.hid h9
            clear h9 b9
            go_wp2_with fail
            go_meet
            exact ⟨⟨2, 0, 0, R, eB⟩, HXO, H9, HR9, c9⟩
          · skip
            have HXO : Hid (Ext s.data.toList ⟨3, 0, 0, R, eB⟩ ∧ opFit ⟨3, 0, 0, R, eB⟩) := by
              refine ⟨ext_of ?_, zero_fit, HRs.out, by show eB.size ≤ 100000; decide⟩
              unfold extP
              rw [h3, hRp]
              rfl
            obtain rfl : rb = true := by rw [← HRB.out.1]; rfl
            obtain rfl : F = .func (.func 97) #[] #[] := by rw [← HRB.out.2]; rfl
            go_wp2_with fail
            refine (readKey_any R B B 3 0 0 ⟨#[]⟩ ⟨#[]⟩ wc wc HO8.out (Nat.le_refl _) (Below.refl _ _)).mono ?_
            rintro e w9 ⟨rfl, h9, b9⟩
            have c9 := Lib.hid (c8.out.trans (b9.mono (Nat.le_of_lt HLT.out)))
            have HR9 := Lib.hid (HR8.out.block (b9.block _ HLT.out))
            have H9 := Lib.hid h9
            clear h9 b9
            go_wp2_with fail
            go_meet
            exact ⟨⟨3, 0, 0, R, eB⟩, HXO, H9, HR9, c9⟩
          · skip
            have HXO : Hid (Ext s.data.toList ⟨4, 0, 0, eB, eB⟩ ∧ opFit ⟨4, 0, 0, eB, eB⟩) := by
              refine ⟨ext_of ?_, zero_fit, by show eB.size ≤ 100000; decide, by show eB.size ≤ 100000; decide⟩
              unfold extP
              rw [h3]
              rfl
            obtain rfl : rb = false := by rw [← HRB.out.1]; rfl
            go_wp2_with fail
            go_meet
            exact ⟨⟨4, 0, 0, eB, eB⟩, HXO, HO8, HR8, c8⟩
          · skip
            have HXO : Hid (Ext s.data.toList ⟨5, 0, 0, eB, eB⟩ ∧ opFit ⟨5, 0, 0, eB, eB⟩) := by
              refine ⟨ext_of ?_, zero_fit, by show eB.size ≤ 100000; decide, by show eB.size ≤ 100000; decide⟩
              unfold extP
              rw [h3]
              rfl
            obtain rfl : rb = false := by rw [← HRB.out.1]; rfl
            go_wp2_with fail
            go_meet
            exact ⟨⟨5, 0, 0, eB, eB⟩, HXO, HO8, HR8, c8⟩
          · have HXO : Hid (Ext s.data.toList ⟨6, polA R.data.toList, 0, eB, eB⟩ ∧ opFit ⟨6, polA R.data.toList, 0, eB, eB⟩) := by
              refine ⟨ext_of ?_, ?_, by show eB.size ≤ 100000; decide, by show eB.size ≤ 100000; decide⟩
              · unfold extP
                rw [h3, if_neg (by decide), if_neg (by decide), if_neg (by decide), if_pos rfl, HRl.out]
              · show -9223372036854775808 ≤ polA R.data.toList ∧ polA R.data.toList ≤ 9223372036854775807
                unfold polA
                split
                · decide
                · split <;> decide
            obtain rfl : rb = true := by rw [← HRB.out.1]; rfl
            obtain rfl : F = .func (.func 99) #[] #[] := by rw [← HRB.out.2]; rfl
            go_wp2_with fail
            refine (readPolicy_any R B B 6 0 0 ⟨#[]⟩ ⟨#[]⟩ wc wc HO8.out (Nat.le_refl _) (Below.refl _ _) hBz).mono ?_
            rintro e w9 ⟨rfl, h9, b9⟩
            have c9 := Lib.hid (c8.out.trans (b9.mono (Nat.le_of_lt HLT.out)))
            have HR9 := Lib.hid (HR8.out.block (b9.block _ HLT.out))
            have H9 := Lib.hid h9
            clear h9 b9
            go_wp2_with fail
            go_meet
            exact ⟨⟨6, polA R.data.toList, 0, eB, eB⟩, HXO, H9, HR9, c9⟩
          · by_cases hg : goodP R
            · have hpl := planOK_parts (text_good hg).1
              have hkl := keepT_short hg
              have hpa := (p_good hg).1
              have hpd := (p_good hg).2.1
              have hA0 : 0 ≤ pA R := by rw [hpa]; exact hpl.1
              have hA1 : pA R ≤ 1000000 := by rw [hpa]; exact hpl.2.1
              by_cases hd : pD R = true
              · have HXO : Hid (Ext s.data.toList ⟨7, pA R, 1, eB, pack (keepT (kepL R))⟩ ∧ opFit ⟨7, pA R, 1, eB, pack (keepT (kepL R))⟩) := by
                  refine ⟨ext_of ?_, ?_, by show eB.size ≤ 100000; decide, pack_le (Nat.le_trans hkl (by decide))⟩
                  · unfold extP
                    rw [h3, hRp, if_neg (by decide), if_neg (by decide), if_neg (by decide), if_neg (by decide), if_pos rfl, if_pos hg, hpa]
                    rw [hpd, decide_eq_true_iff] at hd
                    rw [if_pos hd]
                  · show -9223372036854775808 ≤ pA R ∧ pA R ≤ 9223372036854775807
                    omega
                clear hpl hkl hpa hpd hA0 hA1
                obtain rfl : rb = true := by rw [← HRB.out.1]; rfl
                obtain rfl : F = .func (.func 101) #[] #[] := by rw [← HRB.out.2]; rfl
                go_wp2_with fail
                refine (readCrash_yes R HRs.out B B 7 0 0 ⟨#[]⟩ ⟨#[]⟩ m wc wc (HE.out.below c8.out) HO8.out (Nat.le_refl _) (Below.refl _ _) hBz hg hd).mono ?_
                rintro e w9 ⟨rfl, h9, b9⟩
                have c9 := Lib.hid (c8.out.trans (b9.mono (Nat.le_of_lt HLT.out)))
                have HR9 := Lib.hid (HR8.out.block (b9.block _ HLT.out))
                have H9 := Lib.hid h9
                clear h9 b9
                go_wp2_with fail
                go_meet
                exact ⟨⟨7, pA R, 1, eB, pack (keepT (kepL R))⟩, HXO, H9, HR9, c9⟩
              · have hd2 : pD R = false := Bool.eq_false_iff.mpr hd
                have HXO : Hid (Ext s.data.toList ⟨7, pA R, 0, eB, pack (keepT (kepL R))⟩ ∧ opFit ⟨7, pA R, 0, eB, pack (keepT (kepL R))⟩) := by
                  refine ⟨ext_of ?_, ?_, by show eB.size ≤ 100000; decide, pack_le (Nat.le_trans hkl (by decide))⟩
                  · unfold extP
                    rw [h3, hRp, if_neg (by decide), if_neg (by decide), if_neg (by decide), if_neg (by decide), if_pos rfl, if_pos hg, hpa]
                    rw [hpd, decide_eq_false_iff_not] at hd2
                    rw [if_neg hd2]
                  · show -9223372036854775808 ≤ pA R ∧ pA R ≤ 9223372036854775807
                    omega
                clear hpl hkl hpa hpd hA0 hA1 hd
                obtain rfl : rb = true := by rw [← HRB.out.1]; rfl
                obtain rfl : F = .func (.func 101) #[] #[] := by rw [← HRB.out.2]; rfl
                go_wp2_with fail
                refine (readCrash_no R HRs.out B B 7 0 0 ⟨#[]⟩ ⟨#[]⟩ m wc wc (HE.out.below c8.out) HO8.out (Nat.le_refl _) (Below.refl _ _) hBz hg hd2).mono ?_
                rintro e w9 ⟨rfl, h9, b9⟩
                have c9 := Lib.hid (c8.out.trans (b9.mono (Nat.le_of_lt HLT.out)))
                have HR9 := Lib.hid (HR8.out.block (b9.block _ HLT.out))
                have H9 := Lib.hid h9
                clear h9 b9
                go_wp2_with fail
                go_meet
                exact ⟨⟨7, pA R, 0, eB, pack (keepT (kepL R))⟩, HXO, H9, HR9, c9⟩
            · have HXO : Hid (Ext s.data.toList ⟨7, 0, 0, eB, eB⟩ ∧ opFit ⟨7, 0, 0, eB, eB⟩) := by
                refine ⟨ext_of ?_, zero_fit, by show eB.size ≤ 100000; decide, by show eB.size ≤ 100000; decide⟩
                unfold extP
                rw [h3, hRp, if_neg (by decide), if_neg (by decide), if_neg (by decide), if_neg (by decide), if_pos rfl, if_neg hg]
              obtain rfl : rb = true := by rw [← HRB.out.1]; rfl
              obtain rfl : F = .func (.func 101) #[] #[] := by rw [← HRB.out.2]; rfl
              go_wp2_with fail
              refine (readCrash_bad R HRs.out B B 7 0 0 ⟨#[]⟩ ⟨#[]⟩ m wc wc (HE.out.below c8.out) HO8.out (Nat.le_refl _) (Below.refl _ _) hBz hg).mono ?_
              rintro e w9 ⟨rfl, h9, b9⟩
              have c9 := Lib.hid (c8.out.trans (b9.mono (Nat.le_of_lt HLT.out)))
              have HR9 := Lib.hid (HR8.out.block (b9.block _ HLT.out))
              have H9 := Lib.hid h9
              clear h9 b9
              go_wp2_with fail
              go_meet
              exact ⟨⟨7, 0, 0, eB, eB⟩, HXO, H9, HR9, c9⟩
          · skip
            have HXO : Hid (Ext s.data.toList ⟨8, 0, 0, eB, eB⟩ ∧ opFit ⟨8, 0, 0, eB, eB⟩) := by
              refine ⟨ext_of ?_, zero_fit, by show eB.size ≤ 100000; decide, by show eB.size ≤ 100000; decide⟩
              unfold extP
              rw [h3]
              rfl
            obtain rfl : rb = false := by rw [← HRB.out.1]; rfl
            go_wp2_with fail
            go_meet
            exact ⟨⟨8, 0, 0, eB, eB⟩, HXO, HO8, HR8, c8⟩
        · have HXO : Hid (Ext s.data.toList ⟨K, 0, 0, eB, eB⟩ ∧ opFit ⟨K, 0, 0, eB, eB⟩) :=
            ⟨ext_none h3 _, zero_fit, by show eB.size ≤ 100000; decide, by show eB.size ≤ 100000; decide⟩
          obtain rfl : rb = false := by rw [← HRB.out.1]; exact decide_eq_false (by omega)
          clear h1 h3
          go_wp2_with fail
          go_meet
          exact ⟨⟨K, 0, 0, eB, eB⟩, HXO, HO8, HR8, c8⟩
      case rest =>
        obtain ⟨o, HX, HO9, HR9, c9⟩ := hcut
        clear htest hguard s2 HS2 HO8 HR8 c8
        obtain ⟨k, a, b, x, v⟩ := o
        obtain ⟨⟨k0, k1, k2, k3, k4⟩, kf⟩ := HO9.out
        clear kf
        go_wp2_with fail
        refine (print_any k a b x v HX.out.2 m _ (HE.out.below c9.out)).mono ?_
        obtain ⟨T, hT⟩ : ∃ T, prT ⟨k, a, b, x, v⟩ = T := ⟨_, rfl⟩
        obtain ⟨E, hE⟩ : ∃ E, prE ⟨k, a, b, x, v⟩ = E := ⟨_, rfl⟩
        rw [hT, hE]
        rintro e w9 ⟨rfl, b9⟩
        have HO10 := Lib.hid (HO9.out.below b9)
        have HR10 := Lib.hid (HR9.out.below b9)
        have c10 := Lib.hid (c9.out.trans (b9.mono c9.out.size))
        obtain ⟨y, hy⟩ : ∃ y, (T.toList == s.toList) = y := ⟨_, rfl⟩
        have HPT := Lib.hid (And.intro hT (And.intro hE hy))
        clear HO9 HR9 c9 b9 hT hE k0 k1 k2 k3 k4
        obtain ⟨⟨k0, k1, k2, k3, k4⟩, kf⟩ := HO10.out
        obtain ⟨⟨r0, r1, r2, r3, r4⟩, rf⟩ := HR10.out
        have rf0 := rf 0
        have rf1 := rf 1
        have rf2 := rf 2
        have rf3 := rf 3
        have rf4 := rf 4
        clear kf rf
        by_cases hg : opGood ⟨k, a, b, x, v⟩
        · obtain ⟨g1, g2⟩ := pr_good hg
          obtain rfl : E = 0 := HPT.out.2.1.symm.trans g2
          cases y with
          | true =>
            have HF : Hid (opP s.data.toList = ⟨k, a, b, x, v⟩ ∧ opPE s.data.toList = 0) := by
              refine opP_hit hg ?_ HX.out.1
              have h := HPT.out.2.2
              rw [beq_iff_eq, ByteArray.toList_eq, ByteArray.toList_eq, ← HPT.out.1, g1, pack_data] at h
              exact h
            have HRs := Lib.hid (set5_at HR10.out k a b x v)
            have gc := Lib.hid (set5_below c10.out (Nat.le_refl _) (.int .i64 k) (.int .i64 a) (.int .i64 b) (.string x) (.string v))
            go_wp2_with fail
            exact bodyPost_ret (results_u rfl _ _ w.heap.size k a b x v _ HRs.out rfl rfl) rfl ⟨by rw [HF.out.1, HF.out.2]; rfl, gc.out⟩
          | false =>
            have HF : Hid (opP s.data.toList = zeroOp ∧ opPE s.data.toList = 8) := by
              refine opP_miss HX.out.1 fun ⟨_, h2⟩ => ?_
              have h := HPT.out.2.2
              rw [str_same (by rw [← HPT.out.1, g1, pack_data, h2])] at h
              cases h
            have HRs := Lib.hid (set5_at HR10.out 0 0 0 ⟨#[]⟩ ⟨#[]⟩)
            have gc := Lib.hid (set5_below c10.out (Nat.le_refl _) (.int .i64 0) (.int .i64 0) (.int .i64 0) (.string ⟨#[]⟩) (.string ⟨#[]⟩))
            go_wp2_with fail
            exact bodyPost_ret (results_u rfl _ _ w.heap.size 0 0 0 ⟨#[]⟩ ⟨#[]⟩ _ HRs.out rfl rfl) rfl ⟨by rw [HF.out.1, HF.out.2]; rfl, gc.out⟩
        · obtain ⟨g1, g2⟩ := pr_bad hg
          obtain rfl : E = 2 := HPT.out.2.1.symm.trans g2
          have HF : Hid (opP s.data.toList = zeroOp ∧ opPE s.data.toList = 8) := opP_miss HX.out.1 fun ⟨h1, _⟩ => hg h1
          have HRs := Lib.hid (set5_at HR10.out 0 0 0 ⟨#[]⟩ ⟨#[]⟩)
          have gc := Lib.hid (set5_below c10.out (Nat.le_refl _) (.int .i64 0) (.int .i64 0) (.int .i64 0) (.string ⟨#[]⟩) (.string ⟨#[]⟩))
          clear hg hy
          go_wp2_with fail
          exact bodyPost_ret (results_u rfl _ _ w.heap.size 0 0 0 ⟨#[]⟩ ⟨#[]⟩ _ HRs.out rfl rfl) rfl ⟨by rw [HF.out.1, HF.out.2]; rfl, gc.out⟩
end Go.Proofs.YtlmbcclggaflaaaGreatDoor
