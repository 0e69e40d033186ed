/-
  What Print makes of operations of the kinds that have a word alone, and of no kind.
  What writePolicy and writeCrash compute.
  What writeCrash computes.
  What Print makes of operations with a policy or a plan; of any operation; Check.
  Conditions: as each theorem says (bytes: at most 100,000; the library's tables and variables lie in the world).
-/
import Derived.Test.YtlmbcclggaflaaaGreatDoorBuC
import Derived.Test.YtlmbcclggaflaaaGreatDoorBuB
import Derived.Deep.RegionHeld3
import Derived.Deep.CutRange
import Derived.Deep.CutBlock
import Derived.Lib.ItoaLen
set_option linter.unusedVariables false
namespace Go.Proofs.YtlmbcclggaflaaaGreatDoor
open Go Go.RowKit

theorem text_bare (k : Int) (hk : k = 4 ∨ k = 5 ∨ k = 8) (W x v : ByteArray) (hW : W.data.toList = wordL k) (a b : Int) : W ++ ⟨#[]⟩ = pack (opT ⟨k, a, b, x, v⟩) := by
  rw [good4_text (o := ⟨k, a, b, x, v⟩) hk]
  apply ByteArray.ext
  apply Array.ext'
  simp [pack, hW]
set_option maxRecDepth 100000 in
set_option maxHeartbeats 2000000 in
theorem print_sync (a b : Int) (x v : ByteArray) (w : World) :
    Calls Tryz.prog 15 #[opA 4 a b x v] w fun e w' => e = .returned (.tuple #[.string (prT ⟨4, a, b, x, v⟩), .int .i64 (prE ⟨4, a, b, x, v⟩)]) ∧ Below w.heap.size w w' := by
  obtain ⟨r, hr⟩ : ∃ r, decide ((⟨4, 0, 0, eB, eB⟩ : OpD) = ⟨4, a, b, x, v⟩) = r := ⟨_, rfl⟩
  have hne : ∀ w, (binOp .neq 28 (opA 4 0 0 ⟨#[]⟩ ⟨#[]⟩) (opA 4 a b x v)).run Tryz.prog w = .ok (.bool (!r)) w := op_neq ⟨4, 0, 0, eB, eB⟩ ⟨4, a, b, x, v⟩ r hr
  have HG : Hid (opGood ⟨4, a, b, x, v⟩ ↔ r = true) := by
    show _ ↔ _
    rw [good4 (o := ⟨4, a, b, x, v⟩) (by show (4 : Int) = 4 ∨ (4 : Int) = 5 ∨ (4 : Int) = 8; decide), ← hr, decide_eq_true_iff]
    constructor
    · rintro ⟨h1, h2, h3, h4⟩
      have e2 : a = 0 := h1
      have e3 : b = 0 := h2
      have e4 : x = eB := h3
      have e5 : v = eB := h4
      rw [e2, e3, e4, e5]
    · intro h3
      injection h3 with _ h4 h5 h6 h7
      exact ⟨h4.symm, h5.symm, h6.symm, h7.symm⟩
  clear hr
  have hfn := func_nil
  go_enter Tryz.func15, Tryz.ntmps15
  go_wp2_with fail
  have c0 : Below w.heap.size w (w.alloc (.cells #[.int .i64 4, .int .i64 a, .int .i64 b, .string x, .string v] 28)) := (Below.refl _ _).alloc (Nat.le_refl _) _
  have H0 := Lib.hid (OpBox.new w 4 a b x v 28)
  generalize (w.alloc (.cells #[.int .i64 4, .int .i64 a, .int .i64 b, .string x, .string v] 28)) = w0 at *
  refine (of_sync _).mono ?_
  rintro e w1 ⟨rfl, b1⟩
  have H1 := Lib.hid (H0.out.below b1)
  have c1 := c0.trans (b1.mono c0.size)
  obtain ⟨⟨p0, p1, p2, p3, p4⟩, pf⟩ := H1.out
  clear b1 c0 H0 p1 p2 p3 p4 pf
  have aS : Below w1.heap.size w1 (w1.alloc (.cells #[.string ⟨#[115, 121, 110, 99]⟩, .nilFunc, .nilFunc] 90)) := (Below.refl _ _).alloc (Nat.le_refl _) _
  have s0 : (w1.alloc (.cells #[.string ⟨#[115, 121, 110, 99]⟩, .nilFunc, .nilFunc] 90)).cell? ⟨w1.heap.size, 0, none⟩ = some (.string ⟨#[115, 121, 110, 99]⟩) := new_cell (w := w1) #[.string ⟨#[115, 121, 110, 99]⟩, .nilFunc, .nilFunc] 90 0 _ rfl
  have s1 : (w1.alloc (.cells #[.string ⟨#[115, 121, 110, 99]⟩, .nilFunc, .nilFunc] 90)).cell? ⟨w1.heap.size, 1, none⟩ = some (.nilFunc) := new_cell (w := w1) #[.string ⟨#[115, 121, 110, 99]⟩, .nilFunc, .nilFunc] 90 1 _ rfl
  have hS : w.heap.size < w1.heap.size := H1.out.lt
  have hS2 : w1.heap.size < (w1.alloc (.cells #[.string ⟨#[115, 121, 110, 99]⟩, .nilFunc, .nilFunc] 90)).heap.size := by simp
  go_wp2_with fail
  generalize (w1.alloc (.cells #[.string ⟨#[115, 121, 110, 99]⟩, .nilFunc, .nilFunc] 90)) = w2 at *
  obtain ⟨S, hSe⟩ : ∃ S, w1.heap.size = S := ⟨_, rfl⟩
  rw [hSe] at s0 s1 hS hS2
  have H2 := Lib.hid (H1.out.below aS)
  have p0' := cell_kept p0 aS
  have c2 := c1.trans (aS.mono c1.size)
  rw [hSe]
  clear hSe p0 c1 aS H1
  have q0 : (w2.alloc (.cells #[.int .i64 0, .int .i64 0, .int .i64 0, .string ⟨#[]⟩, .string ⟨#[]⟩] 28)).cell? ⟨w.heap.size, 0, none⟩ = some (.int .i64 4) := cell_old p0'
  go_region
  have aU := (Below.refl w2.heap.size w2).alloc (Nat.le_refl _) (.cells #[.int .i64 4, .int .i64 0, .int .i64 0, .string ⟨#[]⟩, .string ⟨#[]⟩] 28)
  have HU : Hid (OpBox (w2.alloc (.cells #[.int .i64 4, .int .i64 0, .int .i64 0, .string ⟨#[]⟩, .string ⟨#[]⟩] 28)).drew w2.heap.size 4 0 0 ⟨#[]⟩ ⟨#[]⟩) := Lib.hid (OpBox.new w2 4 0 0 ⟨#[]⟩ ⟨#[]⟩ 28).drew
  have H3 : Hid (OpBox (w2.alloc (.cells #[.int .i64 4, .int .i64 0, .int .i64 0, .string ⟨#[]⟩, .string ⟨#[]⟩] 28)).drew w.heap.size 4 a b x v) := Lib.hid (H2.out.below aU).drew
  have t0 : (w2.alloc (.cells #[.int .i64 4, .int .i64 0, .int .i64 0, .string ⟨#[]⟩, .string ⟨#[]⟩] 28)).drew.cell? ⟨S, 0, none⟩ = some (.string ⟨#[115, 121, 110, 99]⟩) := cell_kept s0 aU.drew
  have t1 : (w2.alloc (.cells #[.int .i64 4, .int .i64 0, .int .i64 0, .string ⟨#[]⟩, .string ⟨#[]⟩] 28)).drew.cell? ⟨S, 1, none⟩ = some (.nilFunc) := cell_kept s1 aU.drew
  have c3 : Below w.heap.size w (w2.alloc (.cells #[.int .i64 4, .int .i64 0, .int .i64 0, .string ⟨#[]⟩, .string ⟨#[]⟩] 28)).drew := (c2.trans (aU.mono c2.size)).drew
  obtain ⟨U, hU⟩ : ∃ U, w2.heap.size = U := ⟨_, rfl⟩
  rw [hU] at HU hS2
  rw [hU]
  have hWU : w.heap.size < U := by omega
  have HWU := Lib.hid hWU
  have HSU := Lib.hid hS2
  generalize (w2.alloc (.cells #[.int .i64 4, .int .i64 0, .int .i64 0, .string ⟨#[]⟩, .string ⟨#[]⟩] 28)).drew = w3 at *
  clear aU q0 p0' s0 s1 c2 H2 hS hU hWU hS2
  obtain ⟨⟨p0, p1, p2, p3, p4⟩, pf⟩ := H3.out
  clear pf
  obtain ⟨⟨u0, u1, u2, u3, u4⟩, uf⟩ := HU.out
  clear uf
  cases r with
  | false =>
    have HB : Hid (prT ⟨4, a, b, x, v⟩ = ⟨#[]⟩ ∧ prE ⟨4, a, b, x, v⟩ = 2) := pr_bad fun h => by cases HG.out.1 h
    go_wp2_with fail
    go_ret2
    exact ⟨by rw [HB.out.1, HB.out.2]; rfl, c3⟩
  | true =>
    have HB : Hid (prT ⟨4, a, b, x, v⟩ = ⟨#[115, 121, 110, 99]⟩ ++ ⟨#[]⟩ ∧ prE ⟨4, a, b, x, v⟩ = 0) := by
      obtain ⟨h1, h2⟩ := pr_good (HG.out.2 rfl)
      refine ⟨?_, h2⟩
      rw [h1]
      exact (text_bare 4 (by decide) _ x v rfl a b).symm
    go_wp2_with fail
    go_ret2
    exact ⟨by rw [HB.out.1, HB.out.2]; rfl, c3⟩
set_option maxRecDepth 100000 in
set_option maxHeartbeats 2000000 in
theorem print_step (a b : Int) (x v : ByteArray) (w : World) :
    Calls Tryz.prog 15 #[opA 5 a b x v] w fun e w' => e = .returned (.tuple #[.string (prT ⟨5, a, b, x, v⟩), .int .i64 (prE ⟨5, a, b, x, v⟩)]) ∧ Below w.heap.size w w' := by
  obtain ⟨r, hr⟩ : ∃ r, decide ((⟨5, 0, 0, eB, eB⟩ : OpD) = ⟨5, a, b, x, v⟩) = r := ⟨_, rfl⟩
  have hne : ∀ w, (binOp .neq 28 (opA 5 0 0 ⟨#[]⟩ ⟨#[]⟩) (opA 5 a b x v)).run Tryz.prog w = .ok (.bool (!r)) w := op_neq ⟨5, 0, 0, eB, eB⟩ ⟨5, a, b, x, v⟩ r hr
  have HG : Hid (opGood ⟨5, a, b, x, v⟩ ↔ r = true) := by
    show _ ↔ _
    rw [good4 (o := ⟨5, a, b, x, v⟩) (by show (5 : Int) = 4 ∨ (5 : Int) = 5 ∨ (5 : Int) = 8; decide), ← hr, decide_eq_true_iff]
    constructor
    · rintro ⟨h1, h2, h3, h4⟩
      have e2 : a = 0 := h1
      have e3 : b = 0 := h2
      have e4 : x = eB := h3
      have e5 : v = eB := h4
      rw [e2, e3, e4, e5]
    · intro h3
      injection h3 with _ h4 h5 h6 h7
      exact ⟨h4.symm, h5.symm, h6.symm, h7.symm⟩
  clear hr
  have hfn := func_nil
  go_enter Tryz.func15, Tryz.ntmps15
  go_wp2_with fail
  have c0 : Below w.heap.size w (w.alloc (.cells #[.int .i64 5, .int .i64 a, .int .i64 b, .string x, .string v] 28)) := (Below.refl _ _).alloc (Nat.le_refl _) _
  have H0 := Lib.hid (OpBox.new w 5 a b x v 28)
  generalize (w.alloc (.cells #[.int .i64 5, .int .i64 a, .int .i64 b, .string x, .string v] 28)) = w0 at *
  refine (of_step _).mono ?_
  rintro e w1 ⟨rfl, b1⟩
  have H1 := Lib.hid (H0.out.below b1)
  have c1 := c0.trans (b1.mono c0.size)
  obtain ⟨⟨p0, p1, p2, p3, p4⟩, pf⟩ := H1.out
  clear b1 c0 H0 p1 p2 p3 p4 pf
  have aS : Below w1.heap.size w1 (w1.alloc (.cells #[.string ⟨#[115, 116, 101, 112]⟩, .nilFunc, .nilFunc] 90)) := (Below.refl _ _).alloc (Nat.le_refl _) _
  have s0 : (w1.alloc (.cells #[.string ⟨#[115, 116, 101, 112]⟩, .nilFunc, .nilFunc] 90)).cell? ⟨w1.heap.size, 0, none⟩ = some (.string ⟨#[115, 116, 101, 112]⟩) := new_cell (w := w1) #[.string ⟨#[115, 116, 101, 112]⟩, .nilFunc, .nilFunc] 90 0 _ rfl
  have s1 : (w1.alloc (.cells #[.string ⟨#[115, 116, 101, 112]⟩, .nilFunc, .nilFunc] 90)).cell? ⟨w1.heap.size, 1, none⟩ = some (.nilFunc) := new_cell (w := w1) #[.string ⟨#[115, 116, 101, 112]⟩, .nilFunc, .nilFunc] 90 1 _ rfl
  have hS : w.heap.size < w1.heap.size := H1.out.lt
  have hS2 : w1.heap.size < (w1.alloc (.cells #[.string ⟨#[115, 116, 101, 112]⟩, .nilFunc, .nilFunc] 90)).heap.size := by simp
  go_wp2_with fail
  generalize (w1.alloc (.cells #[.string ⟨#[115, 116, 101, 112]⟩, .nilFunc, .nilFunc] 90)) = w2 at *
  obtain ⟨S, hSe⟩ : ∃ S, w1.heap.size = S := ⟨_, rfl⟩
  rw [hSe] at s0 s1 hS hS2
  have H2 := Lib.hid (H1.out.below aS)
  have p0' := cell_kept p0 aS
  have c2 := c1.trans (aS.mono c1.size)
  rw [hSe]
  clear hSe p0 c1 aS H1
  have q0 : (w2.alloc (.cells #[.int .i64 0, .int .i64 0, .int .i64 0, .string ⟨#[]⟩, .string ⟨#[]⟩] 28)).cell? ⟨w.heap.size, 0, none⟩ = some (.int .i64 5) := cell_old p0'
  go_region
  have aU := (Below.refl w2.heap.size w2).alloc (Nat.le_refl _) (.cells #[.int .i64 5, .int .i64 0, .int .i64 0, .string ⟨#[]⟩, .string ⟨#[]⟩] 28)
  have HU : Hid (OpBox (w2.alloc (.cells #[.int .i64 5, .int .i64 0, .int .i64 0, .string ⟨#[]⟩, .string ⟨#[]⟩] 28)).drew w2.heap.size 5 0 0 ⟨#[]⟩ ⟨#[]⟩) := Lib.hid (OpBox.new w2 5 0 0 ⟨#[]⟩ ⟨#[]⟩ 28).drew
  have H3 : Hid (OpBox (w2.alloc (.cells #[.int .i64 5, .int .i64 0, .int .i64 0, .string ⟨#[]⟩, .string ⟨#[]⟩] 28)).drew w.heap.size 5 a b x v) := Lib.hid (H2.out.below aU).drew
  have t0 : (w2.alloc (.cells #[.int .i64 5, .int .i64 0, .int .i64 0, .string ⟨#[]⟩, .string ⟨#[]⟩] 28)).drew.cell? ⟨S, 0, none⟩ = some (.string ⟨#[115, 116, 101, 112]⟩) := cell_kept s0 aU.drew
  have t1 : (w2.alloc (.cells #[.int .i64 5, .int .i64 0, .int .i64 0, .string ⟨#[]⟩, .string ⟨#[]⟩] 28)).drew.cell? ⟨S, 1, none⟩ = some (.nilFunc) := cell_kept s1 aU.drew
  have c3 : Below w.heap.size w (w2.alloc (.cells #[.int .i64 5, .int .i64 0, .int .i64 0, .string ⟨#[]⟩, .string ⟨#[]⟩] 28)).drew := (c2.trans (aU.mono c2.size)).drew
  obtain ⟨U, hU⟩ : ∃ U, w2.heap.size = U := ⟨_, rfl⟩
  rw [hU] at HU hS2
  rw [hU]
  have hWU : w.heap.size < U := by omega
  have HWU := Lib.hid hWU
  have HSU := Lib.hid hS2
  generalize (w2.alloc (.cells #[.int .i64 5, .int .i64 0, .int .i64 0, .string ⟨#[]⟩, .string ⟨#[]⟩] 28)).drew = w3 at *
  clear aU q0 p0' s0 s1 c2 H2 hS hU hWU hS2
  obtain ⟨⟨p0, p1, p2, p3, p4⟩, pf⟩ := H3.out
  clear pf
  obtain ⟨⟨u0, u1, u2, u3, u4⟩, uf⟩ := HU.out
  clear uf
  cases r with
  | false =>
    have HB : Hid (prT ⟨5, a, b, x, v⟩ = ⟨#[]⟩ ∧ prE ⟨5, a, b, x, v⟩ = 2) := pr_bad fun h => by cases HG.out.1 h
    go_wp2_with fail
    go_ret2
    exact ⟨by rw [HB.out.1, HB.out.2]; rfl, c3⟩
  | true =>
    have HB : Hid (prT ⟨5, a, b, x, v⟩ = ⟨#[115, 116, 101, 112]⟩ ++ ⟨#[]⟩ ∧ prE ⟨5, a, b, x, v⟩ = 0) := by
      obtain ⟨h1, h2⟩ := pr_good (HG.out.2 rfl)
      refine ⟨?_, h2⟩
      rw [h1]
      exact (text_bare 5 (by decide) _ x v rfl a b).symm
    go_wp2_with fail
    go_ret2
    exact ⟨by rw [HB.out.1, HB.out.2]; rfl, c3⟩
set_option maxRecDepth 100000 in
set_option maxHeartbeats 2000000 in
theorem print_reopen (a b : Int) (x v : ByteArray) (w : World) :
    Calls Tryz.prog 15 #[opA 8 a b x v] w fun e w' => e = .returned (.tuple #[.string (prT ⟨8, a, b, x, v⟩), .int .i64 (prE ⟨8, a, b, x, v⟩)]) ∧ Below w.heap.size w w' := by
  obtain ⟨r, hr⟩ : ∃ r, decide ((⟨8, 0, 0, eB, eB⟩ : OpD) = ⟨8, a, b, x, v⟩) = r := ⟨_, rfl⟩
  have hne : ∀ w, (binOp .neq 28 (opA 8 0 0 ⟨#[]⟩ ⟨#[]⟩) (opA 8 a b x v)).run Tryz.prog w = .ok (.bool (!r)) w := op_neq ⟨8, 0, 0, eB, eB⟩ ⟨8, a, b, x, v⟩ r hr
  have HG : Hid (opGood ⟨8, a, b, x, v⟩ ↔ r = true) := by
    show _ ↔ _
    rw [good4 (o := ⟨8, a, b, x, v⟩) (by show (8 : Int) = 4 ∨ (8 : Int) = 5 ∨ (8 : Int) = 8; decide), ← hr, decide_eq_true_iff]
    constructor
    · rintro ⟨h1, h2, h3, h4⟩
      have e2 : a = 0 := h1
      have e3 : b = 0 := h2
      have e4 : x = eB := h3
      have e5 : v = eB := h4
      rw [e2, e3, e4, e5]
    · intro h3
      injection h3 with _ h4 h5 h6 h7
      exact ⟨h4.symm, h5.symm, h6.symm, h7.symm⟩
  clear hr
  have hfn := func_nil
  go_enter Tryz.func15, Tryz.ntmps15
  go_wp2_with fail
  have c0 : Below w.heap.size w (w.alloc (.cells #[.int .i64 8, .int .i64 a, .int .i64 b, .string x, .string v] 28)) := (Below.refl _ _).alloc (Nat.le_refl _) _
  have H0 := Lib.hid (OpBox.new w 8 a b x v 28)
  generalize (w.alloc (.cells #[.int .i64 8, .int .i64 a, .int .i64 b, .string x, .string v] 28)) = w0 at *
  refine (of_reopen _).mono ?_
  rintro e w1 ⟨rfl, b1⟩
  have H1 := Lib.hid (H0.out.below b1)
  have c1 := c0.trans (b1.mono c0.size)
  obtain ⟨⟨p0, p1, p2, p3, p4⟩, pf⟩ := H1.out
  clear b1 c0 H0 p1 p2 p3 p4 pf
  have aS : Below w1.heap.size w1 (w1.alloc (.cells #[.string ⟨#[114, 101, 111, 112, 101, 110]⟩, .nilFunc, .nilFunc] 90)) := (Below.refl _ _).alloc (Nat.le_refl _) _
  have s0 : (w1.alloc (.cells #[.string ⟨#[114, 101, 111, 112, 101, 110]⟩, .nilFunc, .nilFunc] 90)).cell? ⟨w1.heap.size, 0, none⟩ = some (.string ⟨#[114, 101, 111, 112, 101, 110]⟩) := new_cell (w := w1) #[.string ⟨#[114, 101, 111, 112, 101, 110]⟩, .nilFunc, .nilFunc] 90 0 _ rfl
  have s1 : (w1.alloc (.cells #[.string ⟨#[114, 101, 111, 112, 101, 110]⟩, .nilFunc, .nilFunc] 90)).cell? ⟨w1.heap.size, 1, none⟩ = some (.nilFunc) := new_cell (w := w1) #[.string ⟨#[114, 101, 111, 112, 101, 110]⟩, .nilFunc, .nilFunc] 90 1 _ rfl
  have hS : w.heap.size < w1.heap.size := H1.out.lt
  have hS2 : w1.heap.size < (w1.alloc (.cells #[.string ⟨#[114, 101, 111, 112, 101, 110]⟩, .nilFunc, .nilFunc] 90)).heap.size := by simp
  go_wp2_with fail
  generalize (w1.alloc (.cells #[.string ⟨#[114, 101, 111, 112, 101, 110]⟩, .nilFunc, .nilFunc] 90)) = w2 at *
  obtain ⟨S, hSe⟩ : ∃ S, w1.heap.size = S := ⟨_, rfl⟩
  rw [hSe] at s0 s1 hS hS2
  have H2 := Lib.hid (H1.out.below aS)
  have p0' := cell_kept p0 aS
  have c2 := c1.trans (aS.mono c1.size)
  rw [hSe]
  clear hSe p0 c1 aS H1
  have q0 : (w2.alloc (.cells #[.int .i64 0, .int .i64 0, .int .i64 0, .string ⟨#[]⟩, .string ⟨#[]⟩] 28)).cell? ⟨w.heap.size, 0, none⟩ = some (.int .i64 8) := cell_old p0'
  go_region
  have aU := (Below.refl w2.heap.size w2).alloc (Nat.le_refl _) (.cells #[.int .i64 8, .int .i64 0, .int .i64 0, .string ⟨#[]⟩, .string ⟨#[]⟩] 28)
  have HU : Hid (OpBox (w2.alloc (.cells #[.int .i64 8, .int .i64 0, .int .i64 0, .string ⟨#[]⟩, .string ⟨#[]⟩] 28)).drew w2.heap.size 8 0 0 ⟨#[]⟩ ⟨#[]⟩) := Lib.hid (OpBox.new w2 8 0 0 ⟨#[]⟩ ⟨#[]⟩ 28).drew
  have H3 : Hid (OpBox (w2.alloc (.cells #[.int .i64 8, .int .i64 0, .int .i64 0, .string ⟨#[]⟩, .string ⟨#[]⟩] 28)).drew w.heap.size 8 a b x v) := Lib.hid (H2.out.below aU).drew
  have t0 : (w2.alloc (.cells #[.int .i64 8, .int .i64 0, .int .i64 0, .string ⟨#[]⟩, .string ⟨#[]⟩] 28)).drew.cell? ⟨S, 0, none⟩ = some (.string ⟨#[114, 101, 111, 112, 101, 110]⟩) := cell_kept s0 aU.drew
  have t1 : (w2.alloc (.cells #[.int .i64 8, .int .i64 0, .int .i64 0, .string ⟨#[]⟩, .string ⟨#[]⟩] 28)).drew.cell? ⟨S, 1, none⟩ = some (.nilFunc) := cell_kept s1 aU.drew
  have c3 : Below w.heap.size w (w2.alloc (.cells #[.int .i64 8, .int .i64 0, .int .i64 0, .string ⟨#[]⟩, .string ⟨#[]⟩] 28)).drew := (c2.trans (aU.mono c2.size)).drew
  obtain ⟨U, hU⟩ : ∃ U, w2.heap.size = U := ⟨_, rfl⟩
  rw [hU] at HU hS2
  rw [hU]
  have hWU : w.heap.size < U := by omega
  have HWU := Lib.hid hWU
  have HSU := Lib.hid hS2
  generalize (w2.alloc (.cells #[.int .i64 8, .int .i64 0, .int .i64 0, .string ⟨#[]⟩, .string ⟨#[]⟩] 28)).drew = w3 at *
  clear aU q0 p0' s0 s1 c2 H2 hS hU hWU hS2
  obtain ⟨⟨p0, p1, p2, p3, p4⟩, pf⟩ := H3.out
  clear pf
  obtain ⟨⟨u0, u1, u2, u3, u4⟩, uf⟩ := HU.out
  clear uf
  cases r with
  | false =>
    have HB : Hid (prT ⟨8, a, b, x, v⟩ = ⟨#[]⟩ ∧ prE ⟨8, a, b, x, v⟩ = 2) := pr_bad fun h => by cases HG.out.1 h
    go_wp2_with fail
    go_ret2
    exact ⟨by rw [HB.out.1, HB.out.2]; rfl, c3⟩
  | true =>
    have HB : Hid (prT ⟨8, a, b, x, v⟩ = ⟨#[114, 101, 111, 112, 101, 110]⟩ ++ ⟨#[]⟩ ∧ prE ⟨8, a, b, x, v⟩ = 0) := by
      obtain ⟨h1, h2⟩ := pr_good (HG.out.2 rfl)
      refine ⟨?_, h2⟩
      rw [h1]
      exact (text_bare 8 (by decide) _ x v rfl a b).symm
    go_wp2_with fail
    go_ret2
    exact ⟨by rw [HB.out.1, HB.out.2]; rfl, c3⟩
set_option maxRecDepth 100000 in
set_option maxHeartbeats 2000000 in
theorem print_bad (k a b : Int) (x v : ByteArray) (hk : k < 1 ∨ 8 < k) (w : World) :
    Calls Tryz.prog 15 #[opA k a b x v] w fun e w' => e = .returned (.tuple #[.string (prT ⟨k, a, b, x, v⟩), .int .i64 (prE ⟨k, a, b, x, v⟩)]) ∧ Below w.heap.size w w' := by
  have HB : Hid (prT ⟨k, a, b, x, v⟩ = ⟨#[]⟩ ∧ prE ⟨k, a, b, x, v⟩ = 2) := pr_bad (good0 hk)
  have HK := Lib.hid hk
  clear hk
  have hfn := func_nil
  go_enter Tryz.func15, Tryz.ntmps15
  go_wp2_with fail
  have c0 : Below w.heap.size w (w.alloc (.cells #[.int .i64 k, .int .i64 a, .int .i64 b, .string x, .string v] 28)) := (Below.refl _ _).alloc (Nat.le_refl _) _
  have H0 := Lib.hid (OpBox.new w k a b x v 28)
  generalize (w.alloc (.cells #[.int .i64 k, .int .i64 a, .int .i64 b, .string x, .string v] 28)) = w0 at *
  refine (of_bad k HK.out _).mono ?_
  rintro e w1 ⟨rfl, b1⟩
  have H1 := Lib.hid (H0.out.below b1)
  have c1 := c0.trans (b1.mono c0.size)
  obtain ⟨⟨p0, p1, p2, p3, p4⟩, pf⟩ := H1.out
  clear b1 c0 H0 p1 p2 p3 p4 pf
  have aS : Below w1.heap.size w1 (w1.alloc (.cells #[.string ⟨#[]⟩, .nilFunc, .nilFunc] 90)) := (Below.refl _ _).alloc (Nat.le_refl _) _
  have s0 : (w1.alloc (.cells #[.string ⟨#[]⟩, .nilFunc, .nilFunc] 90)).cell? ⟨w1.heap.size, 0, none⟩ = some (.string ⟨#[]⟩) := new_cell (w := w1) #[.string ⟨#[]⟩, .nilFunc, .nilFunc] 90 0 _ rfl
  have s1 : (w1.alloc (.cells #[.string ⟨#[]⟩, .nilFunc, .nilFunc] 90)).cell? ⟨w1.heap.size, 1, none⟩ = some (.nilFunc) := new_cell (w := w1) #[.string ⟨#[]⟩, .nilFunc, .nilFunc] 90 1 _ rfl
  have hS : w.heap.size < w1.heap.size := H1.out.lt
  have hS2 : w1.heap.size < (w1.alloc (.cells #[.string ⟨#[]⟩, .nilFunc, .nilFunc] 90)).heap.size := by simp
  go_wp2_with fail
  generalize (w1.alloc (.cells #[.string ⟨#[]⟩, .nilFunc, .nilFunc] 90)) = w2 at *
  obtain ⟨S, hSe⟩ : ∃ S, w1.heap.size = S := ⟨_, rfl⟩
  rw [hSe] at s0 s1 hS hS2
  have H2 := Lib.hid (H1.out.below aS)
  have p0' := cell_kept p0 aS
  have c2 := c1.trans (aS.mono c1.size)
  rw [hSe]
  clear hSe p0 c1 aS H1
  have q0 : (w2.alloc (.cells #[.int .i64 0, .int .i64 0, .int .i64 0, .string ⟨#[]⟩, .string ⟨#[]⟩] 28)).cell? ⟨w.heap.size, 0, none⟩ = some (.int .i64 k) := cell_old p0'
  go_region
  have aU := (Below.refl w2.heap.size w2).alloc (Nat.le_refl _) (.cells #[.int .i64 k, .int .i64 0, .int .i64 0, .string ⟨#[]⟩, .string ⟨#[]⟩] 28)
  have HU : Hid (OpBox (w2.alloc (.cells #[.int .i64 k, .int .i64 0, .int .i64 0, .string ⟨#[]⟩, .string ⟨#[]⟩] 28)).drew w2.heap.size k 0 0 ⟨#[]⟩ ⟨#[]⟩) := Lib.hid (OpBox.new w2 k 0 0 ⟨#[]⟩ ⟨#[]⟩ 28).drew
  have H3 : Hid (OpBox (w2.alloc (.cells #[.int .i64 k, .int .i64 0, .int .i64 0, .string ⟨#[]⟩, .string ⟨#[]⟩] 28)).drew w.heap.size k a b x v) := Lib.hid (H2.out.below aU).drew
  have t0 : (w2.alloc (.cells #[.int .i64 k, .int .i64 0, .int .i64 0, .string ⟨#[]⟩, .string ⟨#[]⟩] 28)).drew.cell? ⟨S, 0, none⟩ = some (.string ⟨#[]⟩) := cell_kept s0 aU.drew
  have t1 : (w2.alloc (.cells #[.int .i64 k, .int .i64 0, .int .i64 0, .string ⟨#[]⟩, .string ⟨#[]⟩] 28)).drew.cell? ⟨S, 1, none⟩ = some (.nilFunc) := cell_kept s1 aU.drew
  have c3 : Below w.heap.size w (w2.alloc (.cells #[.int .i64 k, .int .i64 0, .int .i64 0, .string ⟨#[]⟩, .string ⟨#[]⟩] 28)).drew := (c2.trans (aU.mono c2.size)).drew
  obtain ⟨U, hU⟩ : ∃ U, w2.heap.size = U := ⟨_, rfl⟩
  rw [hU] at HU hS2
  rw [hU]
  have hWU : w.heap.size < U := by omega
  have HWU := Lib.hid hWU
  have HSU := Lib.hid hS2
  generalize (w2.alloc (.cells #[.int .i64 k, .int .i64 0, .int .i64 0, .string ⟨#[]⟩, .string ⟨#[]⟩] 28)).drew = w3 at *
  clear aU q0 p0' s0 s1 c2 H2 hS hU hWU hS2
  obtain ⟨⟨p0, p1, p2, p3, p4⟩, pf⟩ := H3.out
  clear pf
  obtain ⟨⟨u0, u1, u2, u3, u4⟩, uf⟩ := HU.out
  clear uf
  go_wp2_with fail
  go_ret2
  exact ⟨by rw [HB.out.1, HB.out.2]; rfl, c3⟩
end Go.Proofs.YtlmbcclggaflaaaGreatDoor
namespace Go.Proofs.YtlmbcclggaflaaaGreatDoor
open Go Go.RowKit

abbrev greedyS : ByteArray := ⟨#[103, 114, 101, 101, 100, 121]⟩
abbrev benefitS : ByteArray := ⟨#[98, 101, 110, 101, 102, 105, 116]⟩
theorem policies_any (w : World) :
    Calls Tryz.prog 124 #[] w fun e w' => ∃ B, e = .returned (.slice (some ⟨B, 0, none⟩) 3 3) ∧ w'.cell? ⟨B, 0, none⟩ = some (.string ⟨#[]⟩) ∧ w'.cell? ⟨B, 1, none⟩ = some (.string greedyS) ∧ w'.cell? ⟨B, 2, none⟩ = some (.string benefitS) ∧ Below w.heap.size w w' := by
  have h : Calls Tryz.prog 124 #[] w fun e w' => e = .returned (.slice (some ⟨w.heap.size, 0, none⟩) 3 3) ∧ w' = w.alloc (.cells #[.string ⟨#[]⟩, .string greedyS, .string benefitS] 9) := by
    go_enter Tryz.func124, Tryz.ntmps124
    go_wp2_with fail
    go_ret
    exact ⟨rfl, rfl⟩
  refine h.mono ?_
  rintro e w' ⟨rfl, rfl⟩
  exact ⟨w.heap.size, rfl, new_cell _ _ 0 _ rfl, new_cell _ _ 1 _ rfl, new_cell _ _ 2 _ rfl, (Below.refl _ _).alloc (Nat.le_refl _) _⟩
set_option maxRecDepth 100000 in
set_option maxHeartbeats 1000000 in
theorem writePolicy_bad (k a b : Int) (x v : ByteArray) (ha : a < 1 ∨ 2 < a) (w : World) :
    Calls Tryz.prog 98 #[opA k a b x v] w fun e w' => e = .returned (.tuple #[.string ⟨#[]⟩, opA 0 0 0 ⟨#[]⟩ ⟨#[]⟩, .bool false]) ∧ Below w.heap.size w w' := by
  rcases ha with h | h
  · have d1 : decide (a < 1) = true := by rw [decide_eq_true_iff]; exact h
    clear h
    go_enter Tryz.func98, Tryz.ntmps98
    go_wp2_with fail
    exact bodyPost_ret (results_w rfl _ _ (w.heap.size + 1) 0 0 0 ⟨#[]⟩ ⟨#[]⟩ _ _ (OpBox.new2 _ _ _ _ _ _ _ _ _ _ _ _ _) rfl rfl rfl) rfl ⟨rfl, below2 _ _ _⟩
  · have d1 : decide (a < 1) = false := by rw [decide_eq_false_iff_not]; omega
    have d2 : decide (2 < a) = true := by rw [decide_eq_true_iff]; omega
    clear h
    go_enter Tryz.func98, Tryz.ntmps98
    go_wp2_with fail
    exact bodyPost_ret (results_w rfl _ _ (w.heap.size + 1) 0 0 0 ⟨#[]⟩ ⟨#[]⟩ _ _ (OpBox.new2 _ _ _ _ _ _ _ _ _ _ _ _ _) rfl rfl rfl) rfl ⟨rfl, below2 _ _ _⟩
set_option maxRecDepth 100000 in
set_option maxHeartbeats 1000000 in
theorem writePolicy_one (k b : Int) (x v : ByteArray) (w : World) :
    Calls Tryz.prog 98 #[opA k 1 b x v] w fun e w' => e = .returned (.tuple #[.string (⟨#[32]⟩ ++ greedyS), opA k 1 0 ⟨#[]⟩ ⟨#[]⟩, .bool true]) ∧ Below w.heap.size w w' := by
  go_enter Tryz.func98, Tryz.ntmps98
  go_wp2_with fail
  have c1 : Below w.heap.size w ((w.alloc (.cells #[.int .i64 k, .int .i64 1, .int .i64 b, .string x, .string v] 28)).alloc (.cells #[.int .i64 0, .int .i64 0, .int .i64 0, .string ⟨#[]⟩, .string ⟨#[]⟩] 28)) := ((Below.refl _ _).alloc (Nat.le_refl _) _).alloc (by simp) _
  have H1 := Lib.hid ((OpBox.new w k 1 b x v 28).below ((Below.refl _ (w.alloc (.cells #[.int .i64 k, .int .i64 1, .int .i64 b, .string x, .string v] 28))).alloc (Nat.le_refl _) (.cells #[.int .i64 0, .int .i64 0, .int .i64 0, .string ⟨#[]⟩, .string ⟨#[]⟩] 28)))
  have H2 := OpBox.new (w.alloc (.cells #[.int .i64 k, .int .i64 1, .int .i64 b, .string x, .string v] 28)) 0 0 0 ⟨#[]⟩ ⟨#[]⟩ 28
  rw [World.size_alloc] at H2
  have HR := Lib.hid H2
  clear H2
  generalize (w.alloc (.cells #[.int .i64 k, .int .i64 1, .int .i64 b, .string x, .string v] 28)).alloc (.cells #[.int .i64 0, .int .i64 0, .int .i64 0, .string ⟨#[]⟩, .string ⟨#[]⟩] 28) = w1 at *
  have HC := Lib.hid c1
  clear c1
  obtain ⟨⟨k0, k1, k2, k3, k4⟩, kf⟩ := H1.out
  obtain ⟨⟨z0, z1, z2, z3, z4⟩, zf⟩ := HR.out
  have HLE : Hid (w.heap.size ≤ w.heap.size + 1) := Nat.le_succ _
  have hne : w.heap.size ≠ w.heap.size + 1 := by omega
  have k0d : w1.drew.cell? ⟨w.heap.size, 0, none⟩ = some (.int .i64 k) := k0
  have k1d : w1.drew.cell? ⟨w.heap.size, 1, none⟩ = some (.int .i64 1) := k1
  have zf0 := zf 0
  have zf1 := zf 1
  have zf2 := zf 2
  have zf3 := zf 3
  have zf4 := zf 4
  clear k0 k1 k2 k3 k4 kf zf H1
  refine wp_region_noPanic ?_
  refine wp_region_held_drew (S := fun w' => w'.cell? ⟨w.heap.size, 0, none⟩ = some (.int .i64 k) ∧ w'.cell? ⟨w.heap.size, 1, none⟩ = some (.int .i64 1)) (by kernel_rfl) ⟨k0d, k1d⟩ (fun hHeld => ?_)
  refine wpAnyH_take (i := 1) (v := ?_) rfl (by kernel_rfl) (by kernel_rfl) (by kernel_rfl) (fun _ _ _ h => h) (Or.inl ⟨by rfl, ?_⟩) (by assumption) ?_
  rotate_left
  · intro w hSw
    obtain ⟨hs0, hs1⟩ := hSw
    go_simp
    with_reducible rfl
  try simp only [Act.put]
  try simp only [List.setIfInBounds_toArray]
  try simp only [List.set_cons_succ]
  try simp only [List.set_cons_zero]
  refine wpAnyH_take (i := 2) (v := ?_) rfl (by kernel_rfl) (by kernel_rfl) (by kernel_rfl) (fun _ _ _ h => h) (Or.inl ⟨by rfl, ?_⟩) (by assumption) ?_
  rotate_left
  · intro w hSw
    obtain ⟨hs0, hs1⟩ := hSw
    go_simp
    with_reducible rfl
  try simp only [Act.put]
  try simp only [List.setIfInBounds_toArray]
  try simp only [List.set_cons_succ]
  try simp only [List.set_cons_zero]
  refine wpAnyH_take (i := 6) (v := ?_) rfl (by kernel_rfl) (by kernel_rfl) (by kernel_rfl) (fun _ _ _ h => h) (Or.inl ⟨by rfl, ?_⟩) (by assumption) ?_
  rotate_left
  · intro w hSw
    obtain ⟨hs0, hs1⟩ := hSw
    go_simp
    with_reducible rfl
  try simp only [Act.put]
  try simp only [List.setIfInBounds_toArray]
  try simp only [List.set_cons_succ]
  try simp only [List.set_cons_zero]
  refine wpAnyH_take (i := 7) (v := ?_) rfl (by kernel_rfl) (by kernel_rfl) (by kernel_rfl) (fun _ _ _ h => h) (Or.inl ⟨by rfl, ?_⟩) (by assumption) ?_
  rotate_left
  · intro w hSw
    obtain ⟨hs0, hs1⟩ := hSw
    go_simp
    with_reducible rfl
  try simp only [Act.put]
  try simp only [List.setIfInBounds_toArray]
  try simp only [List.set_cons_succ]
  try simp only [List.set_cons_zero]
  refine wpAnyH_take (i := 8) (v := ?_) rfl (by kernel_rfl) (by kernel_rfl) (by kernel_rfl) (fun _ _ _ h => h) (Or.inl ⟨by rfl, ?_⟩) (by assumption) ?_
  rotate_left
  · intro w hSw
    obtain ⟨hs0, hs1⟩ := hSw
    go_simp
    with_reducible rfl
  try simp only [Act.put]
  try simp only [List.setIfInBounds_toArray]
  try simp only [List.set_cons_succ]
  try simp only [List.set_cons_zero]
  refine wpAnyH_take (i := 9) (v := ?_) rfl (by kernel_rfl) (by kernel_rfl) (by kernel_rfl) (fun _ _ _ h => h) (Or.inl ⟨by rfl, ?_⟩) (by assumption) ?_
  rotate_left
  · intro w hSw
    obtain ⟨hs0, hs1⟩ := hSw
    go_simp
    with_reducible rfl
  try simp only [Act.put]
  try simp only [List.setIfInBounds_toArray]
  try simp only [List.set_cons_succ]
  try simp only [List.set_cons_zero]
  refine wpAnyH_take (i := 10) (v := ?_) rfl (by kernel_rfl) (by kernel_rfl) (by kernel_rfl) (fun _ _ _ h => h) (Or.inl ⟨by rfl, ?_⟩) (by assumption) ?_
  rotate_left
  · intro w hSw
    obtain ⟨hs0, hs1⟩ := hSw
    go_simp
    with_reducible rfl
  try simp only [Act.put]
  try simp only [List.setIfInBounds_toArray]
  try simp only [List.set_cons_succ]
  try simp only [List.set_cons_zero]
  refine wpAnyH_ready (rs := [0]) (by kernel_rfl) (by simp) ?_
  refine AllReadyH.cons rfl (fun K hK => ?_) AllReadyH.nil
  go_simp
  refine (policies_any _).mono ?_
  rintro e w2 ⟨PB, rfl, l0, l1, l2, b1⟩
  have g0 := cell_kept k0d b1
  have g1 := cell_kept k1d b1
  have HR2 := Lib.hid (HR.out.drew.below b1)
  have gb := Lib.hid (HC.out.drew.trans (b1.mono HC.out.drew.size))
  obtain ⟨⟨y0, y1, y2, y3, y4⟩, yf⟩ := HR.out.drew.below b1
  have yf0 := yf 0
  have yf1 := yf 1
  have yf2 := yf 2
  have yf3 := yf 3
  have yf4 := yf 4
  clear yf b1
  refine hK.out _ _ ⟨g0, g1⟩ (fun hHeld2 => ?_)
  clear hK K hHeld
  try simp only [Act.put]
  try simp only [List.setIfInBounds_toArray]
  try simp only [List.set_cons_succ]
  try simp only [List.set_cons_zero]
  refine wpAnyH_take (i := 3) (v := ?_) rfl (by kernel_rfl) (by kernel_rfl) (by kernel_rfl) (fun _ _ _ h => h) (Or.inl ⟨by rfl, ?_⟩) (by assumption) ?_
  rotate_left
  · intro w hSw
    obtain ⟨hs0, hs1⟩ := hSw
    go_simp
    with_reducible rfl
  try simp only [Act.put]
  try simp only [List.setIfInBounds_toArray]
  try simp only [List.set_cons_succ]
  try simp only [List.set_cons_zero]
  refine wpAnyH_ready (rs := [4]) (by kernel_rfl) (by simp) ?_
  refine AllReadyH.cons rfl (fun K hK => ?_) AllReadyH.nil
  go_simp
  refine hK.out _ _ ⟨g0, g1⟩ (fun hHeld => ?_)
  clear hK K
  try simp only [Act.put]
  try simp only [List.setIfInBounds_toArray]
  try simp only [List.set_cons_succ]
  try simp only [List.set_cons_zero]
  refine wpAnyH_take (i := 5) (v := ?_) rfl (by kernel_rfl) (by kernel_rfl) (by kernel_rfl) (fun _ _ _ h => h) (Or.inl ⟨by rfl, ?_⟩) (by assumption) ?_
  rotate_left
  · intro w hSw
    obtain ⟨hs0, hs1⟩ := hSw
    go_simp
    with_reducible rfl
  try simp only [Act.put]
  try simp only [List.setIfInBounds_toArray]
  try simp only [List.set_cons_succ]
  try simp only [List.set_cons_zero]
  refine wpAnyH_take (i := 11) (v := ?_) rfl (by kernel_rfl) (by kernel_rfl) (by kernel_rfl) (fun _ _ _ h => h) (Or.inl ⟨by rfl, ?_⟩) (by assumption) ?_
  rotate_left
  · intro w hSw
    obtain ⟨hs0, hs1⟩ := hSw
    go_simp
    with_reducible rfl
  try simp only [Act.put]
  try simp only [List.setIfInBounds_toArray]
  try simp only [List.set_cons_succ]
  try simp only [List.set_cons_zero]
  refine wpAnyH_ready (rs := [12]) (by kernel_rfl) (by simp) ?_
  refine AllReadyH.cons rfl (fun K hK => ?_) AllReadyH.nil
  go_simp
  refine hK.out _ _ ⟨set5_off g0 hne _ _ _ _ _, set5_off g1 hne _ _ _ _ _⟩ (fun hHeld => ?_)
  clear hK K
  try simp only [Act.put]
  try simp only [List.setIfInBounds_toArray]
  try simp only [List.set_cons_succ]
  try simp only [List.set_cons_zero]
  refine wpAnyH_ready (rs := [13]) (by kernel_rfl) (by simp) ?_
  refine AllReadyH.cons rfl (fun K hK => ?_) AllReadyH.nil
  go_simp
  refine hK.out _ _ ⟨set5_off g0 hne _ _ _ _ _, set5_off g1 hne _ _ _ _ _⟩ (fun hHeld => ?_)
  clear hK K
  try simp only [Act.put]
  try simp only [List.setIfInBounds_toArray]
  try simp only [List.set_cons_succ]
  try simp only [List.set_cons_zero]
  refine wpAnyH_done (by kernel_rfl) ?_ _
  refine NoPanic.normal ?_
  have HRs := Lib.hid (set5_at HR2.out k 1 0 ⟨#[]⟩ ⟨#[]⟩)
  have gc := Lib.hid (set5_below gb.out HLE.out (.int .i64 k) (.int .i64 1) (.int .i64 0) (.string ⟨#[]⟩) (.string ⟨#[]⟩))
  clear y0 y1 y2 y3 y4 yf0 yf1 yf2 yf3 yf4 g0 g1 l0 l1 l2
  go_wp2_with fail
  exact bodyPost_ret (results_w rfl _ _ (w.heap.size + 1) k 1 0 ⟨#[]⟩ ⟨#[]⟩ _ _ HRs.out rfl rfl rfl) rfl ⟨rfl, gc.out⟩
set_option maxRecDepth 100000 in
set_option maxHeartbeats 1000000 in
theorem writePolicy_two (k b : Int) (x v : ByteArray) (w : World) :
    Calls Tryz.prog 98 #[opA k 2 b x v] w fun e w' => e = .returned (.tuple #[.string (⟨#[32]⟩ ++ benefitS), opA k 2 0 ⟨#[]⟩ ⟨#[]⟩, .bool true]) ∧ Below w.heap.size w w' := by
  go_enter Tryz.func98, Tryz.ntmps98
  go_wp2_with fail
  have c1 : Below w.heap.size w ((w.alloc (.cells #[.int .i64 k, .int .i64 2, .int .i64 b, .string x, .string v] 28)).alloc (.cells #[.int .i64 0, .int .i64 0, .int .i64 0, .string ⟨#[]⟩, .string ⟨#[]⟩] 28)) := ((Below.refl _ _).alloc (Nat.le_refl _) _).alloc (by simp) _
  have H1 := Lib.hid ((OpBox.new w k 2 b x v 28).below ((Below.refl _ (w.alloc (.cells #[.int .i64 k, .int .i64 2, .int .i64 b, .string x, .string v] 28))).alloc (Nat.le_refl _) (.cells #[.int .i64 0, .int .i64 0, .int .i64 0, .string ⟨#[]⟩, .string ⟨#[]⟩] 28)))
  have H2 := OpBox.new (w.alloc (.cells #[.int .i64 k, .int .i64 2, .int .i64 b, .string x, .string v] 28)) 0 0 0 ⟨#[]⟩ ⟨#[]⟩ 28
  rw [World.size_alloc] at H2
  have HR := Lib.hid H2
  clear H2
  generalize (w.alloc (.cells #[.int .i64 k, .int .i64 2, .int .i64 b, .string x, .string v] 28)).alloc (.cells #[.int .i64 0, .int .i64 0, .int .i64 0, .string ⟨#[]⟩, .string ⟨#[]⟩] 28) = w1 at *
  have HC := Lib.hid c1
  clear c1
  obtain ⟨⟨k0, k1, k2, k3, k4⟩, kf⟩ := H1.out
  obtain ⟨⟨z0, z1, z2, z3, z4⟩, zf⟩ := HR.out
  have HLE : Hid (w.heap.size ≤ w.heap.size + 1) := Nat.le_succ _
  have hne : w.heap.size ≠ w.heap.size + 1 := by omega
  have k0d : w1.drew.cell? ⟨w.heap.size, 0, none⟩ = some (.int .i64 k) := k0
  have k1d : w1.drew.cell? ⟨w.heap.size, 1, none⟩ = some (.int .i64 2) := k1
  have zf0 := zf 0
  have zf1 := zf 1
  have zf2 := zf 2
  have zf3 := zf 3
  have zf4 := zf 4
  clear k0 k1 k2 k3 k4 kf zf H1
  refine wp_region_noPanic ?_
  refine wp_region_held_drew (S := fun w' => w'.cell? ⟨w.heap.size, 0, none⟩ = some (.int .i64 k) ∧ w'.cell? ⟨w.heap.size, 1, none⟩ = some (.int .i64 2)) (by kernel_rfl) ⟨k0d, k1d⟩ (fun hHeld => ?_)
  refine wpAnyH_take (i := 1) (v := ?_) rfl (by kernel_rfl) (by kernel_rfl) (by kernel_rfl) (fun _ _ _ h => h) (Or.inl ⟨by rfl, ?_⟩) (by assumption) ?_
  rotate_left
  · intro w hSw
    obtain ⟨hs0, hs1⟩ := hSw
    go_simp
    with_reducible rfl
  try simp only [Act.put]
  try simp only [List.setIfInBounds_toArray]
  try simp only [List.set_cons_succ]
  try simp only [List.set_cons_zero]
  refine wpAnyH_take (i := 2) (v := ?_) rfl (by kernel_rfl) (by kernel_rfl) (by kernel_rfl) (fun _ _ _ h => h) (Or.inl ⟨by rfl, ?_⟩) (by assumption) ?_
  rotate_left
  · intro w hSw
    obtain ⟨hs0, hs1⟩ := hSw
    go_simp
    with_reducible rfl
  try simp only [Act.put]
  try simp only [List.setIfInBounds_toArray]
  try simp only [List.set_cons_succ]
  try simp only [List.set_cons_zero]
  refine wpAnyH_take (i := 6) (v := ?_) rfl (by kernel_rfl) (by kernel_rfl) (by kernel_rfl) (fun _ _ _ h => h) (Or.inl ⟨by rfl, ?_⟩) (by assumption) ?_
  rotate_left
  · intro w hSw
    obtain ⟨hs0, hs1⟩ := hSw
    go_simp
    with_reducible rfl
  try simp only [Act.put]
  try simp only [List.setIfInBounds_toArray]
  try simp only [List.set_cons_succ]
  try simp only [List.set_cons_zero]
  refine wpAnyH_take (i := 7) (v := ?_) rfl (by kernel_rfl) (by kernel_rfl) (by kernel_rfl) (fun _ _ _ h => h) (Or.inl ⟨by rfl, ?_⟩) (by assumption) ?_
  rotate_left
  · intro w hSw
    obtain ⟨hs0, hs1⟩ := hSw
    go_simp
    with_reducible rfl
  try simp only [Act.put]
  try simp only [List.setIfInBounds_toArray]
  try simp only [List.set_cons_succ]
  try simp only [List.set_cons_zero]
  refine wpAnyH_take (i := 8) (v := ?_) rfl (by kernel_rfl) (by kernel_rfl) (by kernel_rfl) (fun _ _ _ h => h) (Or.inl ⟨by rfl, ?_⟩) (by assumption) ?_
  rotate_left
  · intro w hSw
    obtain ⟨hs0, hs1⟩ := hSw
    go_simp
    with_reducible rfl
  try simp only [Act.put]
  try simp only [List.setIfInBounds_toArray]
  try simp only [List.set_cons_succ]
  try simp only [List.set_cons_zero]
  refine wpAnyH_take (i := 9) (v := ?_) rfl (by kernel_rfl) (by kernel_rfl) (by kernel_rfl) (fun _ _ _ h => h) (Or.inl ⟨by rfl, ?_⟩) (by assumption) ?_
  rotate_left
  · intro w hSw
    obtain ⟨hs0, hs1⟩ := hSw
    go_simp
    with_reducible rfl
  try simp only [Act.put]
  try simp only [List.setIfInBounds_toArray]
  try simp only [List.set_cons_succ]
  try simp only [List.set_cons_zero]
  refine wpAnyH_take (i := 10) (v := ?_) rfl (by kernel_rfl) (by kernel_rfl) (by kernel_rfl) (fun _ _ _ h => h) (Or.inl ⟨by rfl, ?_⟩) (by assumption) ?_
  rotate_left
  · intro w hSw
    obtain ⟨hs0, hs1⟩ := hSw
    go_simp
    with_reducible rfl
  try simp only [Act.put]
  try simp only [List.setIfInBounds_toArray]
  try simp only [List.set_cons_succ]
  try simp only [List.set_cons_zero]
  refine wpAnyH_ready (rs := [0]) (by kernel_rfl) (by simp) ?_
  refine AllReadyH.cons rfl (fun K hK => ?_) AllReadyH.nil
  go_simp
  refine (policies_any _).mono ?_
  rintro e w2 ⟨PB, rfl, l0, l1, l2, b1⟩
  have g0 := cell_kept k0d b1
  have g1 := cell_kept k1d b1
  have HR2 := Lib.hid (HR.out.drew.below b1)
  have gb := Lib.hid (HC.out.drew.trans (b1.mono HC.out.drew.size))
  obtain ⟨⟨y0, y1, y2, y3, y4⟩, yf⟩ := HR.out.drew.below b1
  have yf0 := yf 0
  have yf1 := yf 1
  have yf2 := yf 2
  have yf3 := yf 3
  have yf4 := yf 4
  clear yf b1
  refine hK.out _ _ ⟨g0, g1⟩ (fun hHeld2 => ?_)
  clear hK K hHeld
  try simp only [Act.put]
  try simp only [List.setIfInBounds_toArray]
  try simp only [List.set_cons_succ]
  try simp only [List.set_cons_zero]
  refine wpAnyH_take (i := 3) (v := ?_) rfl (by kernel_rfl) (by kernel_rfl) (by kernel_rfl) (fun _ _ _ h => h) (Or.inl ⟨by rfl, ?_⟩) (by assumption) ?_
  rotate_left
  · intro w hSw
    obtain ⟨hs0, hs1⟩ := hSw
    go_simp
    with_reducible rfl
  try simp only [Act.put]
  try simp only [List.setIfInBounds_toArray]
  try simp only [List.set_cons_succ]
  try simp only [List.set_cons_zero]
  refine wpAnyH_ready (rs := [4]) (by kernel_rfl) (by simp) ?_
  refine AllReadyH.cons rfl (fun K hK => ?_) AllReadyH.nil
  go_simp
  refine hK.out _ _ ⟨g0, g1⟩ (fun hHeld => ?_)
  clear hK K
  try simp only [Act.put]
  try simp only [List.setIfInBounds_toArray]
  try simp only [List.set_cons_succ]
  try simp only [List.set_cons_zero]
  refine wpAnyH_take (i := 5) (v := ?_) rfl (by kernel_rfl) (by kernel_rfl) (by kernel_rfl) (fun _ _ _ h => h) (Or.inl ⟨by rfl, ?_⟩) (by assumption) ?_
  rotate_left
  · intro w hSw
    obtain ⟨hs0, hs1⟩ := hSw
    go_simp
    with_reducible rfl
  try simp only [Act.put]
  try simp only [List.setIfInBounds_toArray]
  try simp only [List.set_cons_succ]
  try simp only [List.set_cons_zero]
  refine wpAnyH_take (i := 11) (v := ?_) rfl (by kernel_rfl) (by kernel_rfl) (by kernel_rfl) (fun _ _ _ h => h) (Or.inl ⟨by rfl, ?_⟩) (by assumption) ?_
  rotate_left
  · intro w hSw
    obtain ⟨hs0, hs1⟩ := hSw
    go_simp
    with_reducible rfl
  try simp only [Act.put]
  try simp only [List.setIfInBounds_toArray]
  try simp only [List.set_cons_succ]
  try simp only [List.set_cons_zero]
  refine wpAnyH_ready (rs := [12]) (by kernel_rfl) (by simp) ?_
  refine AllReadyH.cons rfl (fun K hK => ?_) AllReadyH.nil
  go_simp
  refine hK.out _ _ ⟨set5_off g0 hne _ _ _ _ _, set5_off g1 hne _ _ _ _ _⟩ (fun hHeld => ?_)
  clear hK K
  try simp only [Act.put]
  try simp only [List.setIfInBounds_toArray]
  try simp only [List.set_cons_succ]
  try simp only [List.set_cons_zero]
  refine wpAnyH_ready (rs := [13]) (by kernel_rfl) (by simp) ?_
  refine AllReadyH.cons rfl (fun K hK => ?_) AllReadyH.nil
  go_simp
  refine hK.out _ _ ⟨set5_off g0 hne _ _ _ _ _, set5_off g1 hne _ _ _ _ _⟩ (fun hHeld => ?_)
  clear hK K
  try simp only [Act.put]
  try simp only [List.setIfInBounds_toArray]
  try simp only [List.set_cons_succ]
  try simp only [List.set_cons_zero]
  refine wpAnyH_done (by kernel_rfl) ?_ _
  refine NoPanic.normal ?_
  have HRs := Lib.hid (set5_at HR2.out k 2 0 ⟨#[]⟩ ⟨#[]⟩)
  have gc := Lib.hid (set5_below gb.out HLE.out (.int .i64 k) (.int .i64 2) (.int .i64 0) (.string ⟨#[]⟩) (.string ⟨#[]⟩))
  clear y0 y1 y2 y3 y4 yf0 yf1 yf2 yf3 yf4 g0 g1 l0 l1 l2
  go_wp2_with fail
  exact bodyPost_ret (results_w rfl _ _ (w.heap.size + 1) k 2 0 ⟨#[]⟩ ⟨#[]⟩ _ _ HRs.out rfl rfl rfl) rfl ⟨rfl, gc.out⟩
end Go.Proofs.YtlmbcclggaflaaaGreatDoor
namespace Go.Proofs.YtlmbcclggaflaaaGreatDoor
open Go Go.RowKit

theorem bits_one (b : Int) : bits .and .i64 b 1 = b % 2 := by
  unfold bits
  simp only
  have h : (BitVec.ofInt 64 b &&& BitVec.ofInt 64 1).toNat = (b % 2).toNat := by
    have e1 : BitVec.ofInt 64 1 = 1#64 := rfl
    rw [e1, BitVec.toNat_and, BitVec.toNat_ofInt]
    have e2 : (1#64).toNat = 1 := rfl
    rw [e2, Nat.and_one_is_mod]
    omega
  show IntKind.i64.wrap (((BitVec.ofInt 64 b &&& BitVec.ofInt 64 1).toNat : Nat) : Int) = b % 2
  rw [h, IntKind.wrap_i64]
  omega
theorem two_cases (b : Int) : b % 2 = 0 ∨ b % 2 = 1 := by omega
set_option maxRecDepth 100000 in
set_option maxHeartbeats 2000000 in
theorem writeCrash_no (k a b : Int) (x v : ByteArray) (hb : b % 2 = 0) (ha0 : -9223372036854775808 ≤ a) (ha1 : a ≤ 9223372036854775807) (hv : v.size ≤ 100000) (T : ByteArray) (hT : T.data.toList = crashI a 0 v.data.toList) (g : Bool) (hg : (pE T == 0) = g) (m : Int) (w : World) (ht : Tab w) (he : Errs w) (hm : w.cell? ⟨0, 0, none⟩ = some (.int .i64 m)) :
    Calls Tryz.prog 100 #[opA k a b x v] w fun e w' => e = .returned (.tuple #[.string (⟨#[32]⟩ ++ T), opA k a 0 ⟨#[]⟩ v, .bool g]) ∧ Below w.heap.size w w' := by
  obtain ⟨I, hI⟩ : ∃ I, (⟨(Lib.itoa a).toArray⟩ : ByteArray) = I := ⟨_, rfl⟩
  have hIs : I.size ≤ 21 := by
    rw [← hI]
    exact Lib.itoa_length_le a ha0 ha1
  have hsum : (((I ++ ⟨#[32]⟩) ++ ⟨#[110]⟩) ++ ⟨#[32]⟩) ++ v = T := by
    apply ByteArray.ext
    apply Array.ext'
    rw [hT, ← hI]
    unfold crashI
    simp
  have hTs : T.size ≤ 200000 := by
    rw [← hsum]
    simp only [ByteArray.size_append]
    have e1 : (⟨#[32]⟩ : ByteArray).size = 1 := rfl
    have e2 : (⟨#[110]⟩ : ByteArray).size = 1 := rfl
    omega
  have q0 : ¬ 9223372036854775807 < I.size + 1 := by omega
  have q1 : ¬ 9223372036854775807 < I.size + 1 + 1 := by omega
  have q2 : ¬ 9223372036854775807 < I.size + 1 + 1 + 1 := by omega
  have q3 : ¬ 9223372036854775807 < I.size + 1 + 1 + 1 + v.size := by omega
  have q4 : ¬ 9223372036854775807 < 1 + T.size := by omega
  have hbb : bits .and .i64 b 1 = 0 := (bits_one b).trans hb
  have HI := Lib.hid hI
  have HSM := Lib.hid hsum
  have HTS := Lib.hid hTs
  have HA := Lib.hid (And.intro ha0 ha1)
  have HGG := Lib.hid hg
  have HT := Lib.hid ht
  have HE := Lib.hid he
  have HM := Lib.hid hm
  clear hI hIs hsum hTs hb ha0 ha1 hT hg ht he hm hv
  go_enter Tryz.func100, Tryz.ntmps100
  go_upto_region 1 with fail
  have c1 : Below w.heap.size w ((w.alloc (.cells #[.int .i64 k, .int .i64 a, .int .i64 b, .string x, .string v] 28)).alloc (.cells #[.int .i64 0, .int .i64 0, .int .i64 0, .string ⟨#[]⟩, .string ⟨#[]⟩] 28)) := ((Below.refl _ _).alloc (Nat.le_refl _) _).alloc (by simp) _
  have H1 := Lib.hid ((OpBox.new w k a b x v 28).below ((Below.refl _ (w.alloc (.cells #[.int .i64 k, .int .i64 a, .int .i64 b, .string x, .string v] 28))).alloc (Nat.le_refl _) (.cells #[.int .i64 0, .int .i64 0, .int .i64 0, .string ⟨#[]⟩, .string ⟨#[]⟩] 28)))
  have H2 := OpBox.new (w.alloc (.cells #[.int .i64 k, .int .i64 a, .int .i64 b, .string x, .string v] 28)) 0 0 0 ⟨#[]⟩ ⟨#[]⟩ 28
  rw [World.size_alloc] at H2
  have HR := Lib.hid H2
  clear H2
  generalize (w.alloc (.cells #[.int .i64 k, .int .i64 a, .int .i64 b, .string x, .string v] 28)).alloc (.cells #[.int .i64 0, .int .i64 0, .int .i64 0, .string ⟨#[]⟩, .string ⟨#[]⟩] 28) = w1 at *
  have HC := Lib.hid c1
  clear c1
  go_cut [5] from 8 to 22 (fun t5 wx => t5 = .string T ∧ Hid (OpBox wx w.heap.size k a b x v) ∧ Hid (OpBox wx (w.heap.size + 1) 0 0 0 ⟨#[]⟩ ⟨#[]⟩) ∧ Hid (Below w.heap.size w wx))
  case first =>
    obtain ⟨⟨p0, p1, p2, p3, p4⟩, pf⟩ := H1.out
    have k1d : w1.drew.cell? ⟨w.heap.size, 1, none⟩ = some (.int .i64 a) := p1
    have k2d : w1.drew.cell? ⟨w.heap.size, 2, none⟩ = some (.int .i64 b) := p2
    have k4d : w1.drew.cell? ⟨w.heap.size, 4, none⟩ = some (.string v) := p4
    have a1 := (Below.refl w1.heap.size w1).alloc (Nat.le_refl _) (.cells #[.string ⟨#[110]⟩, .string ⟨#[121]⟩] 9)
    have l1 : (w1.alloc (.cells #[.string ⟨#[110]⟩, .string ⟨#[121]⟩] 9)).drew.cell? ⟨w.heap.size, 1, none⟩ = some (.int .i64 a) := cell_kept p1 a1.drew
    have l2 : (w1.alloc (.cells #[.string ⟨#[110]⟩, .string ⟨#[121]⟩] 9)).drew.cell? ⟨w.heap.size, 2, none⟩ = some (.int .i64 b) := cell_kept p2 a1.drew
    have l4 : (w1.alloc (.cells #[.string ⟨#[110]⟩, .string ⟨#[121]⟩] 9)).drew.cell? ⟨w.heap.size, 4, none⟩ = some (.string v) := cell_kept p4 a1.drew
    have ln : (w1.alloc (.cells #[.string ⟨#[110]⟩, .string ⟨#[121]⟩] 9)).drew.cell? ⟨w1.heap.size, 0, none⟩ = some (.string ⟨#[110]⟩) := new_cell (w := w1) #[.string ⟨#[110]⟩, .string ⟨#[121]⟩] 9 0 _ rfl
    have cd : Below w1.heap.size w1 w1.drew := (Below.refl w1.heap.size w1).drew
    have ce : Below w1.heap.size w1 (w1.alloc (.cells #[.string ⟨#[110]⟩, .string ⟨#[121]⟩] 9)).drew := a1.drew
    have HTd : Hid (Tab w1.drew) := Lib.hid (HT.out.below (HC.out.drew))
    have HTe : Hid (Tab (w1.alloc (.cells #[.string ⟨#[110]⟩, .string ⟨#[121]⟩] 9)).drew) := Lib.hid (HT.out.below (HC.out.trans (ce.mono HC.out.size)))
    clear p0 p1 p2 p3 p4 pf
    refine wp_region_noPanic ?_
    refine wp_region_held_drew (S := fun w' => w'.cell? ⟨w.heap.size, 1, none⟩ = some (.int .i64 a) ∧ w'.cell? ⟨w.heap.size, 2, none⟩ = some (.int .i64 b) ∧ w'.cell? ⟨w.heap.size, 4, none⟩ = some (.string v)) (by kernel_rfl) ⟨k1d, k2d, k4d⟩ (fun hHeld => ?_)
    refine wpAnyH_take (i := 0) (v := ?_) rfl (by kernel_rfl) (by kernel_rfl) (by kernel_rfl) (fun _ _ _ h => h) (Or.inl ⟨by rfl, ?_⟩) (by assumption) ?_
    rotate_left
    · intro w hSw
      obtain ⟨hs0, hs1, hs2⟩ := hSw
      go_simp
      with_reducible rfl
    try simp only [List.getElem_toArray]
    try simp only [List.getElem_cons_succ]
    try simp only [List.getElem_cons_zero]
    try simp only [Act.put]
    try simp only [List.setIfInBounds_toArray]
    try simp only [List.set_cons_succ]
    try simp only [List.set_cons_zero]
    refine wpAnyH_take (i := 1) (v := ?_) rfl (by kernel_rfl) (by kernel_rfl) (by kernel_rfl) (fun _ _ _ h => h) (Or.inl ⟨by rfl, ?_⟩) (by assumption) ?_
    rotate_left
    · intro w hSw
      obtain ⟨hs0, hs1, hs2⟩ := hSw
      go_simp
      with_reducible rfl
    try simp only [List.getElem_toArray]
    try simp only [List.getElem_cons_succ]
    try simp only [List.getElem_cons_zero]
    try simp only [Act.put]
    try simp only [List.setIfInBounds_toArray]
    try simp only [List.set_cons_succ]
    try simp only [List.set_cons_zero]
    refine wpAnyH_take (i := 5) (v := ?_) rfl (by kernel_rfl) (by kernel_rfl) (by kernel_rfl) (fun _ _ _ h => h) (Or.inl ⟨by rfl, ?_⟩) (by assumption) ?_
    rotate_left
    · intro w hSw
      obtain ⟨hs0, hs1, hs2⟩ := hSw
      go_simp
      with_reducible rfl
    try simp only [List.getElem_toArray]
    try simp only [List.getElem_cons_succ]
    try simp only [List.getElem_cons_zero]
    try simp only [Act.put]
    try simp only [List.setIfInBounds_toArray]
    try simp only [List.set_cons_succ]
    try simp only [List.set_cons_zero]
    refine wpAnyH_take (i := 6) (v := ?_) rfl (by kernel_rfl) (by kernel_rfl) (by kernel_rfl) (fun _ _ _ h => h) (Or.inl ⟨by rfl, ?_⟩) (by assumption) ?_
    rotate_left
    · intro w hSw
      obtain ⟨hs0, hs1, hs2⟩ := hSw
      go_simp
      with_reducible rfl
    try simp only [List.getElem_toArray]
    try simp only [List.getElem_cons_succ]
    try simp only [List.getElem_cons_zero]
    try simp only [Act.put]
    try simp only [List.setIfInBounds_toArray]
    try simp only [List.set_cons_succ]
    try simp only [List.set_cons_zero]
    refine wpAnyH_take (i := 7) (v := ?_) rfl (by kernel_rfl) (by kernel_rfl) (by kernel_rfl) (fun _ _ _ h => h) (Or.inl ⟨by rfl, ?_⟩) (by assumption) ?_
    rotate_left
    · intro w hSw
      obtain ⟨hs0, hs1, hs2⟩ := hSw
      go_simp
      with_reducible rfl
    try simp only [List.getElem_toArray]
    try simp only [List.getElem_cons_succ]
    try simp only [List.getElem_cons_zero]
    try simp only [Act.put]
    try simp only [List.setIfInBounds_toArray]
    try simp only [List.set_cons_succ]
    try simp only [List.set_cons_zero]
    refine wpAnyH_take (i := 12) (v := ?_) rfl (by kernel_rfl) (by kernel_rfl) (by kernel_rfl) (fun _ _ _ h => h) (Or.inl ⟨by rfl, ?_⟩) (by assumption) ?_
    rotate_left
    · intro w hSw
      obtain ⟨hs0, hs1, hs2⟩ := hSw
      go_simp
      with_reducible rfl
    try simp only [List.getElem_toArray]
    try simp only [List.getElem_cons_succ]
    try simp only [List.getElem_cons_zero]
    try simp only [Act.put]
    try simp only [List.setIfInBounds_toArray]
    try simp only [List.set_cons_succ]
    try simp only [List.set_cons_zero]
    refine wpAnyH_take (i := 13) (v := ?_) rfl (by kernel_rfl) (by kernel_rfl) (by kernel_rfl) (fun _ _ _ h => h) (Or.inl ⟨by rfl, ?_⟩) (by assumption) ?_
    rotate_left
    · intro w hSw
      obtain ⟨hs0, hs1, hs2⟩ := hSw
      go_simp
      with_reducible rfl
    try simp only [List.getElem_toArray]
    try simp only [List.getElem_cons_succ]
    try simp only [List.getElem_cons_zero]
    try simp only [Act.put]
    try simp only [List.setIfInBounds_toArray]
    try simp only [List.set_cons_succ]
    try simp only [List.set_cons_zero]
    refine wpAnyH_ready (rs := [2, 4]) (by kernel_rfl) (by simp) ?_
    refine AllReadyH.cons rfl (fun K hK => ?_) (AllReadyH.cons rfl (fun K hK => ?_) AllReadyH.nil)
    · go_simp
      refine (itoa_any a HA.out.1 HA.out.2 w1.drew HTd.out).mono ?_
      rw [HI.out]
      rintro e w4 ⟨rfl, b1⟩
      have j1 := cell_kept k1d b1
      have j2 := cell_kept k2d b1
      have j4 := cell_kept k4d b1
      have a2 := (Below.refl w4.heap.size w4).alloc (Nat.le_refl _) (.cells #[.string ⟨#[110]⟩, .string ⟨#[121]⟩] 9)
      have m1 := cell_kept j1 a2
      have m2 := cell_kept j2 a2
      have m4 := cell_kept j4 a2
      have mn := new_cell (w := w4) #[.string ⟨#[110]⟩, .string ⟨#[121]⟩] 9 0 _ rfl
      have cA := cd.trans (b1.mono cd.size)
      have cB := cA.trans (a2.mono cA.size)
      refine hK.out _ _ ⟨j1, j2, j4⟩ (fun hHeld2 => ?_)
      clear hK K hHeld b1 a2 cA
      try simp only [List.getElem_toArray]
      try simp only [List.getElem_cons_succ]
      try simp only [List.getElem_cons_zero]
      try simp only [Act.put]
      try simp only [List.setIfInBounds_toArray]
      try simp only [List.set_cons_succ]
      try simp only [List.set_cons_zero]
      refine wpAnyH_take (i := 3) (v := ?_) rfl (by kernel_rfl) (by kernel_rfl) (by kernel_rfl) (fun _ _ _ h => h) (Or.inl ⟨by rfl, ?_⟩) (by assumption) ?_
      rotate_left
      · intro w hSw
        obtain ⟨hs0, hs1, hs2⟩ := hSw
        go_simp
        with_reducible rfl
      try simp only [List.getElem_toArray]
      try simp only [List.getElem_cons_succ]
      try simp only [List.getElem_cons_zero]
      try simp only [Act.put]
      try simp only [List.setIfInBounds_toArray]
      try simp only [List.set_cons_succ]
      try simp only [List.set_cons_zero]
      refine wpAnyH_ready (rs := [4]) (by kernel_rfl) (by simp) ?_
      refine AllReadyH.cons rfl (fun K hK => ?_) AllReadyH.nil
      go_simp
      refine hK.out _ _ ⟨m1, m2, m4⟩ (fun hHeld => ?_)
      clear hK K
      try simp only [List.getElem_toArray]
      try simp only [List.getElem_cons_succ]
      try simp only [List.getElem_cons_zero]
      try simp only [Act.put]
      try simp only [List.setIfInBounds_toArray]
      try simp only [List.set_cons_succ]
      try simp only [List.set_cons_zero]
      refine wpAnyH_take (i := 8) (v := ?_) rfl (by kernel_rfl) (by kernel_rfl) (by kernel_rfl) (fun _ _ _ h => h) (Or.inl ⟨by rfl, ?_⟩) (by assumption) ?_
      rotate_left
      · intro w hSw
        obtain ⟨hs0, hs1, hs2⟩ := hSw
        go_simp
        with_reducible rfl
      try simp only [List.getElem_toArray]
      try simp only [List.getElem_cons_succ]
      try simp only [List.getElem_cons_zero]
      try simp only [Act.put]
      try simp only [List.setIfInBounds_toArray]
      try simp only [List.set_cons_succ]
      try simp only [List.set_cons_zero]
      refine wpAnyH_ready (rs := [9]) (by kernel_rfl) (by simp) ?_
      refine AllReadyH.cons rfl (fun K hK => ?_) AllReadyH.nil
      go_simp
      refine hK.out _ _ ⟨m1, m2, m4⟩ (fun hHeld => ?_)
      clear hK K
      try simp only [List.getElem_toArray]
      try simp only [List.getElem_cons_succ]
      try simp only [List.getElem_cons_zero]
      try simp only [Act.put]
      try simp only [List.setIfInBounds_toArray]
      try simp only [List.set_cons_succ]
      try simp only [List.set_cons_zero]
      refine wpAnyH_take (i := 10) (v := ?_) rfl (by kernel_rfl) (by kernel_rfl) (by kernel_rfl) (fun _ _ _ h => h) (Or.inl ⟨by rfl, ?_⟩) (by assumption) ?_
      rotate_left
      · intro w hSw
        obtain ⟨hs0, hs1, hs2⟩ := hSw
        go_simp
        with_reducible rfl
      try simp only [List.getElem_toArray]
      try simp only [List.getElem_cons_succ]
      try simp only [List.getElem_cons_zero]
      try simp only [Act.put]
      try simp only [List.setIfInBounds_toArray]
      try simp only [List.set_cons_succ]
      try simp only [List.set_cons_zero]
      refine wpAnyH_take (i := 11) (v := ?_) rfl (by kernel_rfl) (by kernel_rfl) (by kernel_rfl) (fun _ _ _ h => h) (Or.inl ⟨by rfl, ?_⟩) (by assumption) ?_
      rotate_left
      · intro w hSw
        obtain ⟨hs0, hs1, hs2⟩ := hSw
        go_simp
        with_reducible rfl
      try simp only [List.getElem_toArray]
      try simp only [List.getElem_cons_succ]
      try simp only [List.getElem_cons_zero]
      try simp only [Act.put]
      try simp only [List.setIfInBounds_toArray]
      try simp only [List.set_cons_succ]
      try simp only [List.set_cons_zero]
      refine wpAnyH_take (i := 14) (v := ?_) rfl (by kernel_rfl) (by kernel_rfl) (by kernel_rfl) (fun _ _ _ h => h) (Or.inl ⟨by rfl, ?_⟩) (by assumption) ?_
      rotate_left
      · intro w hSw
        obtain ⟨hs0, hs1, hs2⟩ := hSw
        go_simp
        with_reducible rfl
      try simp only [List.getElem_toArray]
      try simp only [List.getElem_cons_succ]
      try simp only [List.getElem_cons_zero]
      try simp only [Act.put]
      try simp only [List.setIfInBounds_toArray]
      try simp only [List.set_cons_succ]
      try simp only [List.set_cons_zero]
      refine wpAnyH_take (i := 15) (v := ?_) rfl (by kernel_rfl) (by kernel_rfl) (by kernel_rfl) (fun _ _ _ h => h) (Or.inl ⟨by rfl, ?_⟩) (by assumption) ?_
      rotate_left
      · intro w hSw
        obtain ⟨hs0, hs1, hs2⟩ := hSw
        go_simp
        with_reducible rfl
      try simp only [List.getElem_toArray]
      try simp only [List.getElem_cons_succ]
      try simp only [List.getElem_cons_zero]
      try simp only [Act.put]
      try simp only [List.setIfInBounds_toArray]
      try simp only [List.set_cons_succ]
      try simp only [List.set_cons_zero]
      refine wpAnyH_done (by kernel_rfl) ?_ _
      refine NoPanic.normal ?_
      go_wp2_with fail
      go_meet
      exact ⟨congrArg Value.string HSM.out, Lib.hid (H1.out.below cB), Lib.hid (HR.out.below cB), Lib.hid (HC.out.trans (cB.mono HC.out.size))⟩
    · go_simp
      refine hK.out _ _ ⟨l1, l2, l4⟩ (fun hHeld2 => ?_)
      clear hK K hHeld
      try simp only [List.getElem_toArray]
      try simp only [List.getElem_cons_succ]
      try simp only [List.getElem_cons_zero]
      try simp only [Act.put]
      try simp only [List.setIfInBounds_toArray]
      try simp only [List.set_cons_succ]
      try simp only [List.set_cons_zero]
      refine wpAnyH_take (i := 8) (v := ?_) rfl (by kernel_rfl) (by kernel_rfl) (by kernel_rfl) (fun _ _ _ h => h) (Or.inl ⟨by rfl, ?_⟩) (by assumption) ?_
      rotate_left
      · intro w hSw
        obtain ⟨hs0, hs1, hs2⟩ := hSw
        go_simp
        with_reducible rfl
      try simp only [List.getElem_toArray]
      try simp only [List.getElem_cons_succ]
      try simp only [List.getElem_cons_zero]
      try simp only [Act.put]
      try simp only [List.setIfInBounds_toArray]
      try simp only [List.set_cons_succ]
      try simp only [List.set_cons_zero]
      refine wpAnyH_ready (rs := [2, 9]) (by kernel_rfl) (by simp) ?_
      refine AllReadyH.cons rfl (fun K hK => ?_) (AllReadyH.cons rfl (fun K hK => ?_) AllReadyH.nil)
      · go_simp
        refine (itoa_any a HA.out.1 HA.out.2 _ HTe.out).mono ?_
        rw [HI.out]
        rintro e w4 ⟨rfl, b1⟩
        have i1 := cell_kept l1 b1
        have i2 := cell_kept l2 b1
        have i4 := cell_kept l4 b1
        have inn := cell_kept ln b1
        have cC := ce.trans (b1.mono ce.size)
        refine hK.out _ _ ⟨i1, i2, i4⟩ (fun hHeld3 => ?_)
        clear hK K hHeld2 b1
        try simp only [List.getElem_toArray]
        try simp only [List.getElem_cons_succ]
        try simp only [List.getElem_cons_zero]
        try simp only [Act.put]
        try simp only [List.setIfInBounds_toArray]
        try simp only [List.set_cons_succ]
        try simp only [List.set_cons_zero]
        refine wpAnyH_take (i := 3) (v := ?_) rfl (by kernel_rfl) (by kernel_rfl) (by kernel_rfl) (fun _ _ _ h => h) (Or.inl ⟨by rfl, ?_⟩) (by assumption) ?_
        rotate_left
        · intro w hSw
          obtain ⟨hs0, hs1, hs2⟩ := hSw
          go_simp
          with_reducible rfl
        try simp only [List.getElem_toArray]
        try simp only [List.getElem_cons_succ]
        try simp only [List.getElem_cons_zero]
        try simp only [Act.put]
        try simp only [List.setIfInBounds_toArray]
        try simp only [List.set_cons_succ]
        try simp only [List.set_cons_zero]
        refine wpAnyH_ready (rs := [9]) (by kernel_rfl) (by simp) ?_
        refine AllReadyH.cons rfl (fun K hK => ?_) AllReadyH.nil
        go_simp
        refine hK.out _ _ ⟨i1, i2, i4⟩ (fun hHeld => ?_)
        clear hK K
        try simp only [List.getElem_toArray]
        try simp only [List.getElem_cons_succ]
        try simp only [List.getElem_cons_zero]
        try simp only [Act.put]
        try simp only [List.setIfInBounds_toArray]
        try simp only [List.set_cons_succ]
        try simp only [List.set_cons_zero]
        refine wpAnyH_take (i := 10) (v := ?_) rfl (by kernel_rfl) (by kernel_rfl) (by kernel_rfl) (fun _ _ _ h => h) (Or.inl ⟨by rfl, ?_⟩) (by assumption) ?_
        rotate_left
        · intro w hSw
          obtain ⟨hs0, hs1, hs2⟩ := hSw
          go_simp
          with_reducible rfl
        try simp only [List.getElem_toArray]
        try simp only [List.getElem_cons_succ]
        try simp only [List.getElem_cons_zero]
        try simp only [Act.put]
        try simp only [List.setIfInBounds_toArray]
        try simp only [List.set_cons_succ]
        try simp only [List.set_cons_zero]
        refine wpAnyH_take (i := 11) (v := ?_) rfl (by kernel_rfl) (by kernel_rfl) (by kernel_rfl) (fun _ _ _ h => h) (Or.inl ⟨by rfl, ?_⟩) (by assumption) ?_
        rotate_left
        · intro w hSw
          obtain ⟨hs0, hs1, hs2⟩ := hSw
          go_simp
          with_reducible rfl
        try simp only [List.getElem_toArray]
        try simp only [List.getElem_cons_succ]
        try simp only [List.getElem_cons_zero]
        try simp only [Act.put]
        try simp only [List.setIfInBounds_toArray]
        try simp only [List.set_cons_succ]
        try simp only [List.set_cons_zero]
        refine wpAnyH_take (i := 14) (v := ?_) rfl (by kernel_rfl) (by kernel_rfl) (by kernel_rfl) (fun _ _ _ h => h) (Or.inl ⟨by rfl, ?_⟩) (by assumption) ?_
        rotate_left
        · intro w hSw
          obtain ⟨hs0, hs1, hs2⟩ := hSw
          go_simp
          with_reducible rfl
        try simp only [List.getElem_toArray]
        try simp only [List.getElem_cons_succ]
        try simp only [List.getElem_cons_zero]
        try simp only [Act.put]
        try simp only [List.setIfInBounds_toArray]
        try simp only [List.set_cons_succ]
        try simp only [List.set_cons_zero]
        refine wpAnyH_take (i := 15) (v := ?_) rfl (by kernel_rfl) (by kernel_rfl) (by kernel_rfl) (fun _ _ _ h => h) (Or.inl ⟨by rfl, ?_⟩) (by assumption) ?_
        rotate_left
        · intro w hSw
          obtain ⟨hs0, hs1, hs2⟩ := hSw
          go_simp
          with_reducible rfl
        try simp only [List.getElem_toArray]
        try simp only [List.getElem_cons_succ]
        try simp only [List.getElem_cons_zero]
        try simp only [Act.put]
        try simp only [List.setIfInBounds_toArray]
        try simp only [List.set_cons_succ]
        try simp only [List.set_cons_zero]
        refine wpAnyH_done (by kernel_rfl) ?_ _
        refine NoPanic.normal ?_
        go_wp2_with fail
        go_meet
        exact ⟨congrArg Value.string HSM.out, Lib.hid (H1.out.below cC), Lib.hid (HR.out.below cC), Lib.hid (HC.out.trans (cC.mono HC.out.size))⟩
      · go_simp
        refine hK.out _ _ ⟨l1, l2, l4⟩ (fun hHeld3 => ?_)
        clear hK K hHeld2
        try simp only [List.getElem_toArray]
        try simp only [List.getElem_cons_succ]
        try simp only [List.getElem_cons_zero]
        try simp only [Act.put]
        try simp only [List.setIfInBounds_toArray]
        try simp only [List.set_cons_succ]
        try simp only [List.set_cons_zero]
        refine wpAnyH_ready (rs := [2]) (by kernel_rfl) (by simp) ?_
        refine AllReadyH.cons rfl (fun K hK => ?_) AllReadyH.nil
        go_simp
        refine (itoa_any a HA.out.1 HA.out.2 _ HTe.out).mono ?_
        rw [HI.out]
        rintro e w4 ⟨rfl, b1⟩
        have i1 := cell_kept l1 b1
        have i2 := cell_kept l2 b1
        have i4 := cell_kept l4 b1
        have cC := ce.trans (b1.mono ce.size)
        refine hK.out _ _ ⟨i1, i2, i4⟩ (fun hHeld4 => ?_)
        clear hK K hHeld3 b1
        try simp only [List.getElem_toArray]
        try simp only [List.getElem_cons_succ]
        try simp only [List.getElem_cons_zero]
        try simp only [Act.put]
        try simp only [List.setIfInBounds_toArray]
        try simp only [List.set_cons_succ]
        try simp only [List.set_cons_zero]
        refine wpAnyH_take (i := 3) (v := ?_) rfl (by kernel_rfl) (by kernel_rfl) (by kernel_rfl) (fun _ _ _ h => h) (Or.inl ⟨by rfl, ?_⟩) (by assumption) ?_
        rotate_left
        · intro w hSw
          obtain ⟨hs0, hs1, hs2⟩ := hSw
          go_simp
          with_reducible rfl
        try simp only [List.getElem_toArray]
        try simp only [List.getElem_cons_succ]
        try simp only [List.getElem_cons_zero]
        try simp only [Act.put]
        try simp only [List.setIfInBounds_toArray]
        try simp only [List.set_cons_succ]
        try simp only [List.set_cons_zero]
        refine wpAnyH_take (i := 10) (v := ?_) rfl (by kernel_rfl) (by kernel_rfl) (by kernel_rfl) (fun _ _ _ h => h) (Or.inl ⟨by rfl, ?_⟩) (by assumption) ?_
        rotate_left
        · intro w hSw
          obtain ⟨hs0, hs1, hs2⟩ := hSw
          go_simp
          with_reducible rfl
        try simp only [List.getElem_toArray]
        try simp only [List.getElem_cons_succ]
        try simp only [List.getElem_cons_zero]
        try simp only [Act.put]
        try simp only [List.setIfInBounds_toArray]
        try simp only [List.set_cons_succ]
        try simp only [List.set_cons_zero]
        refine wpAnyH_take (i := 11) (v := ?_) rfl (by kernel_rfl) (by kernel_rfl) (by kernel_rfl) (fun _ _ _ h => h) (Or.inl ⟨by rfl, ?_⟩) (by assumption) ?_
        rotate_left
        · intro w hSw
          obtain ⟨hs0, hs1, hs2⟩ := hSw
          go_simp
          with_reducible rfl
        try simp only [List.getElem_toArray]
        try simp only [List.getElem_cons_succ]
        try simp only [List.getElem_cons_zero]
        try simp only [Act.put]
        try simp only [List.setIfInBounds_toArray]
        try simp only [List.set_cons_succ]
        try simp only [List.set_cons_zero]
        refine wpAnyH_take (i := 14) (v := ?_) rfl (by kernel_rfl) (by kernel_rfl) (by kernel_rfl) (fun _ _ _ h => h) (Or.inl ⟨by rfl, ?_⟩) (by assumption) ?_
        rotate_left
        · intro w hSw
          obtain ⟨hs0, hs1, hs2⟩ := hSw
          go_simp
          with_reducible rfl
        try simp only [List.getElem_toArray]
        try simp only [List.getElem_cons_succ]
        try simp only [List.getElem_cons_zero]
        try simp only [Act.put]
        try simp only [List.setIfInBounds_toArray]
        try simp only [List.set_cons_succ]
        try simp only [List.set_cons_zero]
        refine wpAnyH_take (i := 15) (v := ?_) rfl (by kernel_rfl) (by kernel_rfl) (by kernel_rfl) (fun _ _ _ h => h) (Or.inl ⟨by rfl, ?_⟩) (by assumption) ?_
        rotate_left
        · intro w hSw
          obtain ⟨hs0, hs1, hs2⟩ := hSw
          go_simp
          with_reducible rfl
        try simp only [List.getElem_toArray]
        try simp only [List.getElem_cons_succ]
        try simp only [List.getElem_cons_zero]
        try simp only [Act.put]
        try simp only [List.setIfInBounds_toArray]
        try simp only [List.set_cons_succ]
        try simp only [List.set_cons_zero]
        refine wpAnyH_done (by kernel_rfl) ?_ _
        refine NoPanic.normal ?_
        go_wp2_with fail
        go_meet
        exact ⟨congrArg Value.string HSM.out, Lib.hid (H1.out.below cC), Lib.hid (HR.out.below cC), Lib.hid (HC.out.trans (cC.mono HC.out.size))⟩
  case rest =>
    obtain ⟨rfl, HB, HR2, HC2⟩ := hcut
    clear H1 HR HC
    go_wp2_with fail
    refine (parse_any T (by have := HTS.out; omega) m _ (HT.out.below HC2.out) (HE.out.below HC2.out) (cell_kept HM.out HC2.out)).mono ?_
    rintro e w4 ⟨⟨s4, rfl, hn4⟩, b4⟩
    obtain ⟨n4, q4, rfl⟩ := ownsRow_slice hn4
    obtain ⟨A, hA⟩ : ∃ A, pA T = A := ⟨_, rfl⟩
    obtain ⟨d, hd⟩ : ∃ d, pD T = d := ⟨_, rfl⟩
    obtain ⟨E, hE⟩ : ∃ E, pE T = E := ⟨_, rfl⟩
    obtain ⟨Ln, hL⟩ : ∃ Ln, (pL T).length = Ln := ⟨_, rfl⟩
    have HGE : Hid ((E == 0) = g) := by
      show _ = _
      rw [← hE]
      exact HGG.out
    rw [hA, hd, hE, hL]
    have a5 := (Below.refl w4.heap.size w4).alloc (Nat.le_refl _) (.cells #[.int .i64 A, .bool d, .slice n4 Ln q4] 38)
    have H1 := Lib.hid ((HB.out.below b4).below a5)
    have HR := Lib.hid ((HR2.out.below b4).below a5)
    have HC := Lib.hid ((HC2.out.trans (b4.mono HC2.out.size)).trans (a5.mono (Nat.le_trans HC2.out.size b4.size)))
    have HQ := Lib.hid (PlanAt.new w4 A d (.slice n4 Ln q4) 38)
    clear hA hd hE hL HGG hn4 b4 a5 HC2 HR2 HB HTS HT HE HM HA HI HSM
    go_wp2_with fail
    generalize (w4.alloc (.cells #[.int .i64 A, .bool d, .slice n4 Ln q4] 38)) = w5 at *
    obtain ⟨F, hF⟩ : ∃ F, w4.heap.size = F := ⟨_, rfl⟩
    rw [hF] at HQ
    rw [hF]
    clear hF
    obtain ⟨⟨p0, p1, p2, p3, p4⟩, pf⟩ := H1.out
    obtain ⟨⟨r0, r1, r2, r3, r4⟩, rf⟩ := HR.out
    have rf0 := rf 0
    have rf1 := rf 1
    have rf2 := rf 2
    have rf3 := rf 3
    have rf4 := rf 4
    clear pf rf p3
    have HRs := Lib.hid (set5_at HR.out k a 0 ⟨#[]⟩ v).drew
    have gc := Lib.hid (set5_below HC.out (Nat.le_succ _) (.int .i64 k) (.int .i64 a) (.int .i64 0) (.string ⟨#[]⟩) (.string v)).drew
    go_region
    go_wp2_with fail
    exact bodyPost_ret (results_w rfl _ _ (w.heap.size + 1) k a 0 ⟨#[]⟩ v _ _ HRs.out rfl rfl rfl) rfl ⟨by rw [← HGE.out]; rfl, gc.out⟩
set_option maxRecDepth 100000 in
set_option maxHeartbeats 2000000 in
theorem writeCrash_yes (k a b : Int) (x v : ByteArray) (hb : b % 2 = 1) (ha0 : -9223372036854775808 ≤ a) (ha1 : a ≤ 9223372036854775807) (hv : v.size ≤ 100000) (T : ByteArray) (hT : T.data.toList = crashI a 1 v.data.toList) (g : Bool) (hg : (pE T == 0) = g) (m : Int) (w : World) (ht : Tab w) (he : Errs w) (hm : w.cell? ⟨0, 0, none⟩ = some (.int .i64 m)) :
    Calls Tryz.prog 100 #[opA k a b x v] w fun e w' => e = .returned (.tuple #[.string (⟨#[32]⟩ ++ T), opA k a 1 ⟨#[]⟩ v, .bool g]) ∧ Below w.heap.size w w' := by
  obtain ⟨I, hI⟩ : ∃ I, (⟨(Lib.itoa a).toArray⟩ : ByteArray) = I := ⟨_, rfl⟩
  have hIs : I.size ≤ 21 := by
    rw [← hI]
    exact Lib.itoa_length_le a ha0 ha1
  have hsum : (((I ++ ⟨#[32]⟩) ++ ⟨#[121]⟩) ++ ⟨#[32]⟩) ++ v = T := by
    apply ByteArray.ext
    apply Array.ext'
    rw [hT, ← hI]
    unfold crashI
    simp
  have hTs : T.size ≤ 200000 := by
    rw [← hsum]
    simp only [ByteArray.size_append]
    have e1 : (⟨#[32]⟩ : ByteArray).size = 1 := rfl
    have e2 : (⟨#[121]⟩ : ByteArray).size = 1 := rfl
    omega
  have q0 : ¬ 9223372036854775807 < I.size + 1 := by omega
  have q1 : ¬ 9223372036854775807 < I.size + 1 + 1 := by omega
  have q2 : ¬ 9223372036854775807 < I.size + 1 + 1 + 1 := by omega
  have q3 : ¬ 9223372036854775807 < I.size + 1 + 1 + 1 + v.size := by omega
  have q4 : ¬ 9223372036854775807 < 1 + T.size := by omega
  have hbb : bits .and .i64 b 1 = 1 := (bits_one b).trans hb
  have HI := Lib.hid hI
  have HSM := Lib.hid hsum
  have HTS := Lib.hid hTs
  have HA := Lib.hid (And.intro ha0 ha1)
  have HGG := Lib.hid hg
  have HT := Lib.hid ht
  have HE := Lib.hid he
  have HM := Lib.hid hm
  clear hI hIs hsum hTs hb ha0 ha1 hT hg ht he hm hv
  go_enter Tryz.func100, Tryz.ntmps100
  go_upto_region 1 with fail
  have c1 : Below w.heap.size w ((w.alloc (.cells #[.int .i64 k, .int .i64 a, .int .i64 b, .string x, .string v] 28)).alloc (.cells #[.int .i64 0, .int .i64 0, .int .i64 0, .string ⟨#[]⟩, .string ⟨#[]⟩] 28)) := ((Below.refl _ _).alloc (Nat.le_refl _) _).alloc (by simp) _
  have H1 := Lib.hid ((OpBox.new w k a b x v 28).below ((Below.refl _ (w.alloc (.cells #[.int .i64 k, .int .i64 a, .int .i64 b, .string x, .string v] 28))).alloc (Nat.le_refl _) (.cells #[.int .i64 0, .int .i64 0, .int .i64 0, .string ⟨#[]⟩, .string ⟨#[]⟩] 28)))
  have H2 := OpBox.new (w.alloc (.cells #[.int .i64 k, .int .i64 a, .int .i64 b, .string x, .string v] 28)) 0 0 0 ⟨#[]⟩ ⟨#[]⟩ 28
  rw [World.size_alloc] at H2
  have HR := Lib.hid H2
  clear H2
  generalize (w.alloc (.cells #[.int .i64 k, .int .i64 a, .int .i64 b, .string x, .string v] 28)).alloc (.cells #[.int .i64 0, .int .i64 0, .int .i64 0, .string ⟨#[]⟩, .string ⟨#[]⟩] 28) = w1 at *
  have HC := Lib.hid c1
  clear c1
  go_cut [5] from 8 to 22 (fun t5 wx => t5 = .string T ∧ Hid (OpBox wx w.heap.size k a b x v) ∧ Hid (OpBox wx (w.heap.size + 1) 0 0 0 ⟨#[]⟩ ⟨#[]⟩) ∧ Hid (Below w.heap.size w wx))
  case first =>
    obtain ⟨⟨p0, p1, p2, p3, p4⟩, pf⟩ := H1.out
    have k1d : w1.drew.cell? ⟨w.heap.size, 1, none⟩ = some (.int .i64 a) := p1
    have k2d : w1.drew.cell? ⟨w.heap.size, 2, none⟩ = some (.int .i64 b) := p2
    have k4d : w1.drew.cell? ⟨w.heap.size, 4, none⟩ = some (.string v) := p4
    have a1 := (Below.refl w1.heap.size w1).alloc (Nat.le_refl _) (.cells #[.string ⟨#[110]⟩, .string ⟨#[121]⟩] 9)
    have l1 : (w1.alloc (.cells #[.string ⟨#[110]⟩, .string ⟨#[121]⟩] 9)).drew.cell? ⟨w.heap.size, 1, none⟩ = some (.int .i64 a) := cell_kept p1 a1.drew
    have l2 : (w1.alloc (.cells #[.string ⟨#[110]⟩, .string ⟨#[121]⟩] 9)).drew.cell? ⟨w.heap.size, 2, none⟩ = some (.int .i64 b) := cell_kept p2 a1.drew
    have l4 : (w1.alloc (.cells #[.string ⟨#[110]⟩, .string ⟨#[121]⟩] 9)).drew.cell? ⟨w.heap.size, 4, none⟩ = some (.string v) := cell_kept p4 a1.drew
    have ln : (w1.alloc (.cells #[.string ⟨#[110]⟩, .string ⟨#[121]⟩] 9)).drew.cell? ⟨w1.heap.size, 1, none⟩ = some (.string ⟨#[121]⟩) := new_cell (w := w1) #[.string ⟨#[110]⟩, .string ⟨#[121]⟩] 9 1 _ rfl
    have cd : Below w1.heap.size w1 w1.drew := (Below.refl w1.heap.size w1).drew
    have ce : Below w1.heap.size w1 (w1.alloc (.cells #[.string ⟨#[110]⟩, .string ⟨#[121]⟩] 9)).drew := a1.drew
    have HTd : Hid (Tab w1.drew) := Lib.hid (HT.out.below (HC.out.drew))
    have HTe : Hid (Tab (w1.alloc (.cells #[.string ⟨#[110]⟩, .string ⟨#[121]⟩] 9)).drew) := Lib.hid (HT.out.below (HC.out.trans (ce.mono HC.out.size)))
    clear p0 p1 p2 p3 p4 pf
    refine wp_region_noPanic ?_
    refine wp_region_held_drew (S := fun w' => w'.cell? ⟨w.heap.size, 1, none⟩ = some (.int .i64 a) ∧ w'.cell? ⟨w.heap.size, 2, none⟩ = some (.int .i64 b) ∧ w'.cell? ⟨w.heap.size, 4, none⟩ = some (.string v)) (by kernel_rfl) ⟨k1d, k2d, k4d⟩ (fun hHeld => ?_)
    refine wpAnyH_take (i := 0) (v := ?_) rfl (by kernel_rfl) (by kernel_rfl) (by kernel_rfl) (fun _ _ _ h => h) (Or.inl ⟨by rfl, ?_⟩) (by assumption) ?_
    rotate_left
    · intro w hSw
      obtain ⟨hs0, hs1, hs2⟩ := hSw
      go_simp
      with_reducible rfl
    try simp only [List.getElem_toArray]
    try simp only [List.getElem_cons_succ]
    try simp only [List.getElem_cons_zero]
    try simp only [Act.put]
    try simp only [List.setIfInBounds_toArray]
    try simp only [List.set_cons_succ]
    try simp only [List.set_cons_zero]
    refine wpAnyH_take (i := 1) (v := ?_) rfl (by kernel_rfl) (by kernel_rfl) (by kernel_rfl) (fun _ _ _ h => h) (Or.inl ⟨by rfl, ?_⟩) (by assumption) ?_
    rotate_left
    · intro w hSw
      obtain ⟨hs0, hs1, hs2⟩ := hSw
      go_simp
      with_reducible rfl
    try simp only [List.getElem_toArray]
    try simp only [List.getElem_cons_succ]
    try simp only [List.getElem_cons_zero]
    try simp only [Act.put]
    try simp only [List.setIfInBounds_toArray]
    try simp only [List.set_cons_succ]
    try simp only [List.set_cons_zero]
    refine wpAnyH_take (i := 5) (v := ?_) rfl (by kernel_rfl) (by kernel_rfl) (by kernel_rfl) (fun _ _ _ h => h) (Or.inl ⟨by rfl, ?_⟩) (by assumption) ?_
    rotate_left
    · intro w hSw
      obtain ⟨hs0, hs1, hs2⟩ := hSw
      go_simp
      with_reducible rfl
    try simp only [List.getElem_toArray]
    try simp only [List.getElem_cons_succ]
    try simp only [List.getElem_cons_zero]
    try simp only [Act.put]
    try simp only [List.setIfInBounds_toArray]
    try simp only [List.set_cons_succ]
    try simp only [List.set_cons_zero]
    refine wpAnyH_take (i := 6) (v := ?_) rfl (by kernel_rfl) (by kernel_rfl) (by kernel_rfl) (fun _ _ _ h => h) (Or.inl ⟨by rfl, ?_⟩) (by assumption) ?_
    rotate_left
    · intro w hSw
      obtain ⟨hs0, hs1, hs2⟩ := hSw
      go_simp
      with_reducible rfl
    try simp only [List.getElem_toArray]
    try simp only [List.getElem_cons_succ]
    try simp only [List.getElem_cons_zero]
    try simp only [Act.put]
    try simp only [List.setIfInBounds_toArray]
    try simp only [List.set_cons_succ]
    try simp only [List.set_cons_zero]
    refine wpAnyH_take (i := 7) (v := ?_) rfl (by kernel_rfl) (by kernel_rfl) (by kernel_rfl) (fun _ _ _ h => h) (Or.inl ⟨by rfl, ?_⟩) (by assumption) ?_
    rotate_left
    · intro w hSw
      obtain ⟨hs0, hs1, hs2⟩ := hSw
      go_simp
      with_reducible rfl
    try simp only [List.getElem_toArray]
    try simp only [List.getElem_cons_succ]
    try simp only [List.getElem_cons_zero]
    try simp only [Act.put]
    try simp only [List.setIfInBounds_toArray]
    try simp only [List.set_cons_succ]
    try simp only [List.set_cons_zero]
    refine wpAnyH_take (i := 12) (v := ?_) rfl (by kernel_rfl) (by kernel_rfl) (by kernel_rfl) (fun _ _ _ h => h) (Or.inl ⟨by rfl, ?_⟩) (by assumption) ?_
    rotate_left
    · intro w hSw
      obtain ⟨hs0, hs1, hs2⟩ := hSw
      go_simp
      with_reducible rfl
    try simp only [List.getElem_toArray]
    try simp only [List.getElem_cons_succ]
    try simp only [List.getElem_cons_zero]
    try simp only [Act.put]
    try simp only [List.setIfInBounds_toArray]
    try simp only [List.set_cons_succ]
    try simp only [List.set_cons_zero]
    refine wpAnyH_take (i := 13) (v := ?_) rfl (by kernel_rfl) (by kernel_rfl) (by kernel_rfl) (fun _ _ _ h => h) (Or.inl ⟨by rfl, ?_⟩) (by assumption) ?_
    rotate_left
    · intro w hSw
      obtain ⟨hs0, hs1, hs2⟩ := hSw
      go_simp
      with_reducible rfl
    try simp only [List.getElem_toArray]
    try simp only [List.getElem_cons_succ]
    try simp only [List.getElem_cons_zero]
    try simp only [Act.put]
    try simp only [List.setIfInBounds_toArray]
    try simp only [List.set_cons_succ]
    try simp only [List.set_cons_zero]
    refine wpAnyH_ready (rs := [2, 4]) (by kernel_rfl) (by simp) ?_
    refine AllReadyH.cons rfl (fun K hK => ?_) (AllReadyH.cons rfl (fun K hK => ?_) AllReadyH.nil)
    · go_simp
      refine (itoa_any a HA.out.1 HA.out.2 w1.drew HTd.out).mono ?_
      rw [HI.out]
      rintro e w4 ⟨rfl, b1⟩
      have j1 := cell_kept k1d b1
      have j2 := cell_kept k2d b1
      have j4 := cell_kept k4d b1
      have a2 := (Below.refl w4.heap.size w4).alloc (Nat.le_refl _) (.cells #[.string ⟨#[110]⟩, .string ⟨#[121]⟩] 9)
      have m1 := cell_kept j1 a2
      have m2 := cell_kept j2 a2
      have m4 := cell_kept j4 a2
      have mn := new_cell (w := w4) #[.string ⟨#[110]⟩, .string ⟨#[121]⟩] 9 1 _ rfl
      have cA := cd.trans (b1.mono cd.size)
      have cB := cA.trans (a2.mono cA.size)
      refine hK.out _ _ ⟨j1, j2, j4⟩ (fun hHeld2 => ?_)
      clear hK K hHeld b1 a2 cA
      try simp only [List.getElem_toArray]
      try simp only [List.getElem_cons_succ]
      try simp only [List.getElem_cons_zero]
      try simp only [Act.put]
      try simp only [List.setIfInBounds_toArray]
      try simp only [List.set_cons_succ]
      try simp only [List.set_cons_zero]
      refine wpAnyH_take (i := 3) (v := ?_) rfl (by kernel_rfl) (by kernel_rfl) (by kernel_rfl) (fun _ _ _ h => h) (Or.inl ⟨by rfl, ?_⟩) (by assumption) ?_
      rotate_left
      · intro w hSw
        obtain ⟨hs0, hs1, hs2⟩ := hSw
        go_simp
        with_reducible rfl
      try simp only [List.getElem_toArray]
      try simp only [List.getElem_cons_succ]
      try simp only [List.getElem_cons_zero]
      try simp only [Act.put]
      try simp only [List.setIfInBounds_toArray]
      try simp only [List.set_cons_succ]
      try simp only [List.set_cons_zero]
      refine wpAnyH_ready (rs := [4]) (by kernel_rfl) (by simp) ?_
      refine AllReadyH.cons rfl (fun K hK => ?_) AllReadyH.nil
      go_simp
      refine hK.out _ _ ⟨m1, m2, m4⟩ (fun hHeld => ?_)
      clear hK K
      try simp only [List.getElem_toArray]
      try simp only [List.getElem_cons_succ]
      try simp only [List.getElem_cons_zero]
      try simp only [Act.put]
      try simp only [List.setIfInBounds_toArray]
      try simp only [List.set_cons_succ]
      try simp only [List.set_cons_zero]
      refine wpAnyH_take (i := 8) (v := ?_) rfl (by kernel_rfl) (by kernel_rfl) (by kernel_rfl) (fun _ _ _ h => h) (Or.inl ⟨by rfl, ?_⟩) (by assumption) ?_
      rotate_left
      · intro w hSw
        obtain ⟨hs0, hs1, hs2⟩ := hSw
        go_simp
        with_reducible rfl
      try simp only [List.getElem_toArray]
      try simp only [List.getElem_cons_succ]
      try simp only [List.getElem_cons_zero]
      try simp only [Act.put]
      try simp only [List.setIfInBounds_toArray]
      try simp only [List.set_cons_succ]
      try simp only [List.set_cons_zero]
      refine wpAnyH_ready (rs := [9]) (by kernel_rfl) (by simp) ?_
      refine AllReadyH.cons rfl (fun K hK => ?_) AllReadyH.nil
      go_simp
      refine hK.out _ _ ⟨m1, m2, m4⟩ (fun hHeld => ?_)
      clear hK K
      try simp only [List.getElem_toArray]
      try simp only [List.getElem_cons_succ]
      try simp only [List.getElem_cons_zero]
      try simp only [Act.put]
      try simp only [List.setIfInBounds_toArray]
      try simp only [List.set_cons_succ]
      try simp only [List.set_cons_zero]
      refine wpAnyH_take (i := 10) (v := ?_) rfl (by kernel_rfl) (by kernel_rfl) (by kernel_rfl) (fun _ _ _ h => h) (Or.inl ⟨by rfl, ?_⟩) (by assumption) ?_
      rotate_left
      · intro w hSw
        obtain ⟨hs0, hs1, hs2⟩ := hSw
        go_simp
        with_reducible rfl
      try simp only [List.getElem_toArray]
      try simp only [List.getElem_cons_succ]
      try simp only [List.getElem_cons_zero]
      try simp only [Act.put]
      try simp only [List.setIfInBounds_toArray]
      try simp only [List.set_cons_succ]
      try simp only [List.set_cons_zero]
      refine wpAnyH_take (i := 11) (v := ?_) rfl (by kernel_rfl) (by kernel_rfl) (by kernel_rfl) (fun _ _ _ h => h) (Or.inl ⟨by rfl, ?_⟩) (by assumption) ?_
      rotate_left
      · intro w hSw
        obtain ⟨hs0, hs1, hs2⟩ := hSw
        go_simp
        with_reducible rfl
      try simp only [List.getElem_toArray]
      try simp only [List.getElem_cons_succ]
      try simp only [List.getElem_cons_zero]
      try simp only [Act.put]
      try simp only [List.setIfInBounds_toArray]
      try simp only [List.set_cons_succ]
      try simp only [List.set_cons_zero]
      refine wpAnyH_take (i := 14) (v := ?_) rfl (by kernel_rfl) (by kernel_rfl) (by kernel_rfl) (fun _ _ _ h => h) (Or.inl ⟨by rfl, ?_⟩) (by assumption) ?_
      rotate_left
      · intro w hSw
        obtain ⟨hs0, hs1, hs2⟩ := hSw
        go_simp
        with_reducible rfl
      try simp only [List.getElem_toArray]
      try simp only [List.getElem_cons_succ]
      try simp only [List.getElem_cons_zero]
      try simp only [Act.put]
      try simp only [List.setIfInBounds_toArray]
      try simp only [List.set_cons_succ]
      try simp only [List.set_cons_zero]
      refine wpAnyH_take (i := 15) (v := ?_) rfl (by kernel_rfl) (by kernel_rfl) (by kernel_rfl) (fun _ _ _ h => h) (Or.inl ⟨by rfl, ?_⟩) (by assumption) ?_
      rotate_left
      · intro w hSw
        obtain ⟨hs0, hs1, hs2⟩ := hSw
        go_simp
        with_reducible rfl
      try simp only [List.getElem_toArray]
      try simp only [List.getElem_cons_succ]
      try simp only [List.getElem_cons_zero]
      try simp only [Act.put]
      try simp only [List.setIfInBounds_toArray]
      try simp only [List.set_cons_succ]
      try simp only [List.set_cons_zero]
      refine wpAnyH_done (by kernel_rfl) ?_ _
      refine NoPanic.normal ?_
      go_wp2_with fail
      go_meet
      exact ⟨congrArg Value.string HSM.out, Lib.hid (H1.out.below cB), Lib.hid (HR.out.below cB), Lib.hid (HC.out.trans (cB.mono HC.out.size))⟩
    · go_simp
      refine hK.out _ _ ⟨l1, l2, l4⟩ (fun hHeld2 => ?_)
      clear hK K hHeld
      try simp only [List.getElem_toArray]
      try simp only [List.getElem_cons_succ]
      try simp only [List.getElem_cons_zero]
      try simp only [Act.put]
      try simp only [List.setIfInBounds_toArray]
      try simp only [List.set_cons_succ]
      try simp only [List.set_cons_zero]
      refine wpAnyH_take (i := 8) (v := ?_) rfl (by kernel_rfl) (by kernel_rfl) (by kernel_rfl) (fun _ _ _ h => h) (Or.inl ⟨by rfl, ?_⟩) (by assumption) ?_
      rotate_left
      · intro w hSw
        obtain ⟨hs0, hs1, hs2⟩ := hSw
        go_simp
        with_reducible rfl
      try simp only [List.getElem_toArray]
      try simp only [List.getElem_cons_succ]
      try simp only [List.getElem_cons_zero]
      try simp only [Act.put]
      try simp only [List.setIfInBounds_toArray]
      try simp only [List.set_cons_succ]
      try simp only [List.set_cons_zero]
      refine wpAnyH_ready (rs := [2, 9]) (by kernel_rfl) (by simp) ?_
      refine AllReadyH.cons rfl (fun K hK => ?_) (AllReadyH.cons rfl (fun K hK => ?_) AllReadyH.nil)
      · go_simp
        refine (itoa_any a HA.out.1 HA.out.2 _ HTe.out).mono ?_
        rw [HI.out]
        rintro e w4 ⟨rfl, b1⟩
        have i1 := cell_kept l1 b1
        have i2 := cell_kept l2 b1
        have i4 := cell_kept l4 b1
        have inn := cell_kept ln b1
        have cC := ce.trans (b1.mono ce.size)
        refine hK.out _ _ ⟨i1, i2, i4⟩ (fun hHeld3 => ?_)
        clear hK K hHeld2 b1
        try simp only [List.getElem_toArray]
        try simp only [List.getElem_cons_succ]
        try simp only [List.getElem_cons_zero]
        try simp only [Act.put]
        try simp only [List.setIfInBounds_toArray]
        try simp only [List.set_cons_succ]
        try simp only [List.set_cons_zero]
        refine wpAnyH_take (i := 3) (v := ?_) rfl (by kernel_rfl) (by kernel_rfl) (by kernel_rfl) (fun _ _ _ h => h) (Or.inl ⟨by rfl, ?_⟩) (by assumption) ?_
        rotate_left
        · intro w hSw
          obtain ⟨hs0, hs1, hs2⟩ := hSw
          go_simp
          with_reducible rfl
        try simp only [List.getElem_toArray]
        try simp only [List.getElem_cons_succ]
        try simp only [List.getElem_cons_zero]
        try simp only [Act.put]
        try simp only [List.setIfInBounds_toArray]
        try simp only [List.set_cons_succ]
        try simp only [List.set_cons_zero]
        refine wpAnyH_ready (rs := [9]) (by kernel_rfl) (by simp) ?_
        refine AllReadyH.cons rfl (fun K hK => ?_) AllReadyH.nil
        go_simp
        refine hK.out _ _ ⟨i1, i2, i4⟩ (fun hHeld => ?_)
        clear hK K
        try simp only [List.getElem_toArray]
        try simp only [List.getElem_cons_succ]
        try simp only [List.getElem_cons_zero]
        try simp only [Act.put]
        try simp only [List.setIfInBounds_toArray]
        try simp only [List.set_cons_succ]
        try simp only [List.set_cons_zero]
        refine wpAnyH_take (i := 10) (v := ?_) rfl (by kernel_rfl) (by kernel_rfl) (by kernel_rfl) (fun _ _ _ h => h) (Or.inl ⟨by rfl, ?_⟩) (by assumption) ?_
        rotate_left
        · intro w hSw
          obtain ⟨hs0, hs1, hs2⟩ := hSw
          go_simp
          with_reducible rfl
        try simp only [List.getElem_toArray]
        try simp only [List.getElem_cons_succ]
        try simp only [List.getElem_cons_zero]
        try simp only [Act.put]
        try simp only [List.setIfInBounds_toArray]
        try simp only [List.set_cons_succ]
        try simp only [List.set_cons_zero]
        refine wpAnyH_take (i := 11) (v := ?_) rfl (by kernel_rfl) (by kernel_rfl) (by kernel_rfl) (fun _ _ _ h => h) (Or.inl ⟨by rfl, ?_⟩) (by assumption) ?_
        rotate_left
        · intro w hSw
          obtain ⟨hs0, hs1, hs2⟩ := hSw
          go_simp
          with_reducible rfl
        try simp only [List.getElem_toArray]
        try simp only [List.getElem_cons_succ]
        try simp only [List.getElem_cons_zero]
        try simp only [Act.put]
        try simp only [List.setIfInBounds_toArray]
        try simp only [List.set_cons_succ]
        try simp only [List.set_cons_zero]
        refine wpAnyH_take (i := 14) (v := ?_) rfl (by kernel_rfl) (by kernel_rfl) (by kernel_rfl) (fun _ _ _ h => h) (Or.inl ⟨by rfl, ?_⟩) (by assumption) ?_
        rotate_left
        · intro w hSw
          obtain ⟨hs0, hs1, hs2⟩ := hSw
          go_simp
          with_reducible rfl
        try simp only [List.getElem_toArray]
        try simp only [List.getElem_cons_succ]
        try simp only [List.getElem_cons_zero]
        try simp only [Act.put]
        try simp only [List.setIfInBounds_toArray]
        try simp only [List.set_cons_succ]
        try simp only [List.set_cons_zero]
        refine wpAnyH_take (i := 15) (v := ?_) rfl (by kernel_rfl) (by kernel_rfl) (by kernel_rfl) (fun _ _ _ h => h) (Or.inl ⟨by rfl, ?_⟩) (by assumption) ?_
        rotate_left
        · intro w hSw
          obtain ⟨hs0, hs1, hs2⟩ := hSw
          go_simp
          with_reducible rfl
        try simp only [List.getElem_toArray]
        try simp only [List.getElem_cons_succ]
        try simp only [List.getElem_cons_zero]
        try simp only [Act.put]
        try simp only [List.setIfInBounds_toArray]
        try simp only [List.set_cons_succ]
        try simp only [List.set_cons_zero]
        refine wpAnyH_done (by kernel_rfl) ?_ _
        refine NoPanic.normal ?_
        go_wp2_with fail
        go_meet
        exact ⟨congrArg Value.string HSM.out, Lib.hid (H1.out.below cC), Lib.hid (HR.out.below cC), Lib.hid (HC.out.trans (cC.mono HC.out.size))⟩
      · go_simp
        refine hK.out _ _ ⟨l1, l2, l4⟩ (fun hHeld3 => ?_)
        clear hK K hHeld2
        try simp only [List.getElem_toArray]
        try simp only [List.getElem_cons_succ]
        try simp only [List.getElem_cons_zero]
        try simp only [Act.put]
        try simp only [List.setIfInBounds_toArray]
        try simp only [List.set_cons_succ]
        try simp only [List.set_cons_zero]
        refine wpAnyH_ready (rs := [2]) (by kernel_rfl) (by simp) ?_
        refine AllReadyH.cons rfl (fun K hK => ?_) AllReadyH.nil
        go_simp
        refine (itoa_any a HA.out.1 HA.out.2 _ HTe.out).mono ?_
        rw [HI.out]
        rintro e w4 ⟨rfl, b1⟩
        have i1 := cell_kept l1 b1
        have i2 := cell_kept l2 b1
        have i4 := cell_kept l4 b1
        have cC := ce.trans (b1.mono ce.size)
        refine hK.out _ _ ⟨i1, i2, i4⟩ (fun hHeld4 => ?_)
        clear hK K hHeld3 b1
        try simp only [List.getElem_toArray]
        try simp only [List.getElem_cons_succ]
        try simp only [List.getElem_cons_zero]
        try simp only [Act.put]
        try simp only [List.setIfInBounds_toArray]
        try simp only [List.set_cons_succ]
        try simp only [List.set_cons_zero]
        refine wpAnyH_take (i := 3) (v := ?_) rfl (by kernel_rfl) (by kernel_rfl) (by kernel_rfl) (fun _ _ _ h => h) (Or.inl ⟨by rfl, ?_⟩) (by assumption) ?_
        rotate_left
        · intro w hSw
          obtain ⟨hs0, hs1, hs2⟩ := hSw
          go_simp
          with_reducible rfl
        try simp only [List.getElem_toArray]
        try simp only [List.getElem_cons_succ]
        try simp only [List.getElem_cons_zero]
        try simp only [Act.put]
        try simp only [List.setIfInBounds_toArray]
        try simp only [List.set_cons_succ]
        try simp only [List.set_cons_zero]
        refine wpAnyH_take (i := 10) (v := ?_) rfl (by kernel_rfl) (by kernel_rfl) (by kernel_rfl) (fun _ _ _ h => h) (Or.inl ⟨by rfl, ?_⟩) (by assumption) ?_
        rotate_left
        · intro w hSw
          obtain ⟨hs0, hs1, hs2⟩ := hSw
          go_simp
          with_reducible rfl
        try simp only [List.getElem_toArray]
        try simp only [List.getElem_cons_succ]
        try simp only [List.getElem_cons_zero]
        try simp only [Act.put]
        try simp only [List.setIfInBounds_toArray]
        try simp only [List.set_cons_succ]
        try simp only [List.set_cons_zero]
        refine wpAnyH_take (i := 11) (v := ?_) rfl (by kernel_rfl) (by kernel_rfl) (by kernel_rfl) (fun _ _ _ h => h) (Or.inl ⟨by rfl, ?_⟩) (by assumption) ?_
        rotate_left
        · intro w hSw
          obtain ⟨hs0, hs1, hs2⟩ := hSw
          go_simp
          with_reducible rfl
        try simp only [List.getElem_toArray]
        try simp only [List.getElem_cons_succ]
        try simp only [List.getElem_cons_zero]
        try simp only [Act.put]
        try simp only [List.setIfInBounds_toArray]
        try simp only [List.set_cons_succ]
        try simp only [List.set_cons_zero]
        refine wpAnyH_take (i := 14) (v := ?_) rfl (by kernel_rfl) (by kernel_rfl) (by kernel_rfl) (fun _ _ _ h => h) (Or.inl ⟨by rfl, ?_⟩) (by assumption) ?_
        rotate_left
        · intro w hSw
          obtain ⟨hs0, hs1, hs2⟩ := hSw
          go_simp
          with_reducible rfl
        try simp only [List.getElem_toArray]
        try simp only [List.getElem_cons_succ]
        try simp only [List.getElem_cons_zero]
        try simp only [Act.put]
        try simp only [List.setIfInBounds_toArray]
        try simp only [List.set_cons_succ]
        try simp only [List.set_cons_zero]
        refine wpAnyH_take (i := 15) (v := ?_) rfl (by kernel_rfl) (by kernel_rfl) (by kernel_rfl) (fun _ _ _ h => h) (Or.inl ⟨by rfl, ?_⟩) (by assumption) ?_
        rotate_left
        · intro w hSw
          obtain ⟨hs0, hs1, hs2⟩ := hSw
          go_simp
          with_reducible rfl
        try simp only [List.getElem_toArray]
        try simp only [List.getElem_cons_succ]
        try simp only [List.getElem_cons_zero]
        try simp only [Act.put]
        try simp only [List.setIfInBounds_toArray]
        try simp only [List.set_cons_succ]
        try simp only [List.set_cons_zero]
        refine wpAnyH_done (by kernel_rfl) ?_ _
        refine NoPanic.normal ?_
        go_wp2_with fail
        go_meet
        exact ⟨congrArg Value.string HSM.out, Lib.hid (H1.out.below cC), Lib.hid (HR.out.below cC), Lib.hid (HC.out.trans (cC.mono HC.out.size))⟩
  case rest =>
    obtain ⟨rfl, HB, HR2, HC2⟩ := hcut
    clear H1 HR HC
    go_wp2_with fail
    refine (parse_any T (by have := HTS.out; omega) m _ (HT.out.below HC2.out) (HE.out.below HC2.out) (cell_kept HM.out HC2.out)).mono ?_
    rintro e w4 ⟨⟨s4, rfl, hn4⟩, b4⟩
    obtain ⟨n4, q4, rfl⟩ := ownsRow_slice hn4
    obtain ⟨A, hA⟩ : ∃ A, pA T = A := ⟨_, rfl⟩
    obtain ⟨d, hd⟩ : ∃ d, pD T = d := ⟨_, rfl⟩
    obtain ⟨E, hE⟩ : ∃ E, pE T = E := ⟨_, rfl⟩
    obtain ⟨Ln, hL⟩ : ∃ Ln, (pL T).length = Ln := ⟨_, rfl⟩
    have HGE : Hid ((E == 0) = g) := by
      show _ = _
      rw [← hE]
      exact HGG.out
    rw [hA, hd, hE, hL]
    have a5 := (Below.refl w4.heap.size w4).alloc (Nat.le_refl _) (.cells #[.int .i64 A, .bool d, .slice n4 Ln q4] 38)
    have H1 := Lib.hid ((HB.out.below b4).below a5)
    have HR := Lib.hid ((HR2.out.below b4).below a5)
    have HC := Lib.hid ((HC2.out.trans (b4.mono HC2.out.size)).trans (a5.mono (Nat.le_trans HC2.out.size b4.size)))
    have HQ := Lib.hid (PlanAt.new w4 A d (.slice n4 Ln q4) 38)
    clear hA hd hE hL HGG hn4 b4 a5 HC2 HR2 HB HTS HT HE HM HA HI HSM
    go_wp2_with fail
    generalize (w4.alloc (.cells #[.int .i64 A, .bool d, .slice n4 Ln q4] 38)) = w5 at *
    obtain ⟨F, hF⟩ : ∃ F, w4.heap.size = F := ⟨_, rfl⟩
    rw [hF] at HQ
    rw [hF]
    clear hF
    obtain ⟨⟨p0, p1, p2, p3, p4⟩, pf⟩ := H1.out
    obtain ⟨⟨r0, r1, r2, r3, r4⟩, rf⟩ := HR.out
    have rf0 := rf 0
    have rf1 := rf 1
    have rf2 := rf 2
    have rf3 := rf 3
    have rf4 := rf 4
    clear pf rf p3
    have HRs := Lib.hid (set5_at HR.out k a 1 ⟨#[]⟩ v).drew
    have gc := Lib.hid (set5_below HC.out (Nat.le_succ _) (.int .i64 k) (.int .i64 a) (.int .i64 1) (.string ⟨#[]⟩) (.string v)).drew
    go_region
    go_wp2_with fail
    exact bodyPost_ret (results_w rfl _ _ (w.heap.size + 1) k a 1 ⟨#[]⟩ v _ _ HRs.out rfl rfl rfl) rfl ⟨by rw [← HGE.out]; rfl, gc.out⟩
end Go.Proofs.YtlmbcclggaflaaaGreatDoor
namespace Go.Proofs.YtlmbcclggaflaaaGreatDoor
open Go Go.RowKit

theorem text_pol (a b : Int) (x v S : ByteArray) (hS : S.data.toList = polL a) : (⟨#[112, 111, 108, 105, 99, 121]⟩ : ByteArray) ++ (⟨#[32]⟩ ++ S) = pack (opT ⟨6, a, b, x, v⟩) := by
  rw [good6_text rfl]
  apply ByteArray.ext
  apply Array.ext'
  simp [pack, wordL, hS]
set_option maxRecDepth 100000 in
set_option maxHeartbeats 2000000 in
theorem print_polone (b : Int) (x v : ByteArray) (w : World) :
    Calls Tryz.prog 15 #[opA 6 1 b x v] w fun e w' => e = .returned (.tuple #[.string (prT ⟨6, 1, b, x, v⟩), .int .i64 (prE ⟨6, 1, b, x, v⟩)]) ∧ Below w.heap.size w w' := by
  obtain ⟨r, hr⟩ : ∃ r, decide ((⟨6, 1, 0, eB, eB⟩ : OpD) = ⟨6, 1, b, x, v⟩) = r := ⟨_, rfl⟩
  have hne : ∀ w, (binOp .neq 28 (opA 6 1 0 ⟨#[]⟩ ⟨#[]⟩) (opA 6 1 b x v)).run Tryz.prog w = .ok (.bool (!r)) w := op_neq ⟨6, 1, 0, eB, eB⟩ ⟨6, 1, b, x, v⟩ r hr
  obtain ⟨P, hP⟩ : ∃ P, (⟨#[32]⟩ : ByteArray) ++ greedyS = P := ⟨_, rfl⟩
  have hPs : P.size ≤ 100 := by rw [← hP, ByteArray.size_append]; decide
  have q1 : ¬ 9223372036854775807 < 6 + P.size := by omega
  have HP := Lib.hid hP
  clear hP hPs
  have HG : Hid (opGood ⟨6, 1, b, x, v⟩ ↔ r = true) := by
    show _ ↔ _
    rw [good6 rfl, ← hr, decide_eq_true_iff]
    constructor
    · rintro ⟨h1, h2, h3, h4⟩
      have e3 : b = 0 := h2
      have e4 : x = eB := h3
      have e5 : v = eB := h4
      rw [e3, e4, e5]
    · intro h3
      injection h3 with _ h4 h5 h6 h7
      exact ⟨by show (1 : Int) = 1 ∨ (1 : Int) = 2; decide, h5.symm, h6.symm, h7.symm⟩
  clear hr
  have hfn := func_some 98
  go_enter Tryz.func15, Tryz.ntmps15
  go_wp2_with fail
  have c0 : Below w.heap.size w (w.alloc (.cells #[.int .i64 6, .int .i64 1, .int .i64 b, .string x, .string v] 28)) := (Below.refl _ _).alloc (Nat.le_refl _) _
  have H0 := Lib.hid (OpBox.new w 6 1 b x v 28)
  generalize (w.alloc (.cells #[.int .i64 6, .int .i64 1, .int .i64 b, .string x, .string v] 28)) = w0 at *
  refine (of_policy _).mono ?_
  rintro e w1 ⟨rfl, b1⟩
  have H1 := Lib.hid (H0.out.below b1)
  have c1 := c0.trans (b1.mono c0.size)
  obtain ⟨⟨p0, p1, p2, p3, p4⟩, pf⟩ := H1.out
  clear b1 c0 H0 p1 p2 p3 p4 pf
  have aS : Below w1.heap.size w1 (w1.alloc (.cells #[.string ⟨#[112, 111, 108, 105, 99, 121]⟩, .func (.func 98) #[] #[], .func (.func 99) #[] #[]] 90)) := (Below.refl _ _).alloc (Nat.le_refl _) _
  have s0 : (w1.alloc (.cells #[.string ⟨#[112, 111, 108, 105, 99, 121]⟩, .func (.func 98) #[] #[], .func (.func 99) #[] #[]] 90)).cell? ⟨w1.heap.size, 0, none⟩ = some (.string ⟨#[112, 111, 108, 105, 99, 121]⟩) := new_cell (w := w1) #[.string ⟨#[112, 111, 108, 105, 99, 121]⟩, .func (.func 98) #[] #[], .func (.func 99) #[] #[]] 90 0 _ rfl
  have s1 : (w1.alloc (.cells #[.string ⟨#[112, 111, 108, 105, 99, 121]⟩, .func (.func 98) #[] #[], .func (.func 99) #[] #[]] 90)).cell? ⟨w1.heap.size, 1, none⟩ = some (.func (.func 98) #[] #[]) := new_cell (w := w1) #[.string ⟨#[112, 111, 108, 105, 99, 121]⟩, .func (.func 98) #[] #[], .func (.func 99) #[] #[]] 90 1 _ rfl
  have hS : w.heap.size < w1.heap.size := H1.out.lt
  have hS2 : w1.heap.size < (w1.alloc (.cells #[.string ⟨#[112, 111, 108, 105, 99, 121]⟩, .func (.func 98) #[] #[], .func (.func 99) #[] #[]] 90)).heap.size := by simp
  go_wp2_with fail
  generalize (w1.alloc (.cells #[.string ⟨#[112, 111, 108, 105, 99, 121]⟩, .func (.func 98) #[] #[], .func (.func 99) #[] #[]] 90)) = w2 at *
  obtain ⟨S, hSe⟩ : ∃ S, w1.heap.size = S := ⟨_, rfl⟩
  rw [hSe] at s0 s1 hS hS2
  have H2 := Lib.hid (H1.out.below aS)
  have p0' := cell_kept p0 aS
  have c2 := c1.trans (aS.mono c1.size)
  rw [hSe]
  clear hSe p0 c1 aS H1
  have q0 : (w2.alloc (.cells #[.int .i64 0, .int .i64 0, .int .i64 0, .string ⟨#[]⟩, .string ⟨#[]⟩] 28)).cell? ⟨w.heap.size, 0, none⟩ = some (.int .i64 6) := cell_old p0'
  go_region
  have aU := (Below.refl w2.heap.size w2).alloc (Nat.le_refl _) (.cells #[.int .i64 6, .int .i64 0, .int .i64 0, .string ⟨#[]⟩, .string ⟨#[]⟩] 28)
  have HU : Hid (OpBox (w2.alloc (.cells #[.int .i64 6, .int .i64 0, .int .i64 0, .string ⟨#[]⟩, .string ⟨#[]⟩] 28)).drew w2.heap.size 6 0 0 ⟨#[]⟩ ⟨#[]⟩) := Lib.hid (OpBox.new w2 6 0 0 ⟨#[]⟩ ⟨#[]⟩ 28).drew
  have H3 : Hid (OpBox (w2.alloc (.cells #[.int .i64 6, .int .i64 0, .int .i64 0, .string ⟨#[]⟩, .string ⟨#[]⟩] 28)).drew w.heap.size 6 1 b x v) := Lib.hid (H2.out.below aU).drew
  have t0 : (w2.alloc (.cells #[.int .i64 6, .int .i64 0, .int .i64 0, .string ⟨#[]⟩, .string ⟨#[]⟩] 28)).drew.cell? ⟨S, 0, none⟩ = some (.string ⟨#[112, 111, 108, 105, 99, 121]⟩) := cell_kept s0 aU.drew
  have t1 : (w2.alloc (.cells #[.int .i64 6, .int .i64 0, .int .i64 0, .string ⟨#[]⟩, .string ⟨#[]⟩] 28)).drew.cell? ⟨S, 1, none⟩ = some (.func (.func 98) #[] #[]) := cell_kept s1 aU.drew
  have c3 : Below w.heap.size w (w2.alloc (.cells #[.int .i64 6, .int .i64 0, .int .i64 0, .string ⟨#[]⟩, .string ⟨#[]⟩] 28)).drew := (c2.trans (aU.mono c2.size)).drew
  obtain ⟨U, hU⟩ : ∃ U, w2.heap.size = U := ⟨_, rfl⟩
  rw [hU] at HU hS2
  rw [hU]
  have hWU : w.heap.size < U := by omega
  have HWU := Lib.hid hWU
  have HSU := Lib.hid hS2
  generalize (w2.alloc (.cells #[.int .i64 6, .int .i64 0, .int .i64 0, .string ⟨#[]⟩, .string ⟨#[]⟩] 28)).drew = w3 at *
  clear aU q0 p0' s0 s1 c2 H2 hS hU hWU hS2
  obtain ⟨⟨p0, p1, p2, p3, p4⟩, pf⟩ := H3.out
  clear pf
  go_wp2_with fail
  refine (writePolicy_one 6 b x v _).mono ?_
  rw [HP.out]
  rintro e w4 ⟨rfl, b1⟩
  have H4 := Lib.hid (H3.out.below b1)
  have HU4 := Lib.hid (HU.out.below b1)
  have s0 := cell_kept t0 b1
  have c4 := c3.trans (b1.mono c3.size)
  obtain ⟨⟨u0, u1, u2, u3, u4⟩, uf⟩ := HU4.out
  have uf0 := uf 0
  have uf1 := uf 1
  have uf2 := uf 2
  have uf3 := uf 3
  have uf4 := uf 4
  clear uf b1 t0 t1 c3 H3 HU p0 p1 p2 p3 p4
  have HV := Lib.hid (set5_at HU4.out 6 1 0 ⟨#[]⟩ ⟨#[]⟩)
  have c5 := set5_below c4 (Nat.le_of_lt HWU.out) (.int .i64 6) (.int .i64 1) (.int .i64 0) (.string ⟨#[]⟩) (.string ⟨#[]⟩)
  have r0 := set5_off s0 (Nat.ne_of_lt HSU.out) (.int .i64 6) (.int .i64 1) (.int .i64 0) (.string ⟨#[]⟩) (.string ⟨#[]⟩)
  obtain ⟨⟨g0, g1, g2, g3, g4⟩, gf⟩ := H4.out
  have h0 := set5_off g0 (Nat.ne_of_lt HWU.out) (.int .i64 6) (.int .i64 1) (.int .i64 0) (.string ⟨#[]⟩) (.string ⟨#[]⟩)
  have h1 := set5_off g1 (Nat.ne_of_lt HWU.out) (.int .i64 6) (.int .i64 1) (.int .i64 0) (.string ⟨#[]⟩) (.string ⟨#[]⟩)
  have h2 := set5_off g2 (Nat.ne_of_lt HWU.out) (.int .i64 6) (.int .i64 1) (.int .i64 0) (.string ⟨#[]⟩) (.string ⟨#[]⟩)
  have h3 := set5_off g3 (Nat.ne_of_lt HWU.out) (.int .i64 6) (.int .i64 1) (.int .i64 0) (.string ⟨#[]⟩) (.string ⟨#[]⟩)
  have h4 := set5_off g4 (Nat.ne_of_lt HWU.out) (.int .i64 6) (.int .i64 1) (.int .i64 0) (.string ⟨#[]⟩) (.string ⟨#[]⟩)
  obtain ⟨⟨v0, v1, v2, v3, v4⟩, vf⟩ := HV.out
  clear g0 g1 g2 g3 g4 gf vf c4
  cases r with
  | false =>
    have HB : Hid (prT ⟨6, 1, b, x, v⟩ = ⟨#[]⟩ ∧ prE ⟨6, 1, b, x, v⟩ = 2) := pr_bad fun h => by cases HG.out.1 h
    go_wp2_with fail
    go_ret2
    exact ⟨by rw [HB.out.1, HB.out.2]; rfl, c5⟩
  | true =>
    have HB : Hid (prT ⟨6, 1, b, x, v⟩ = ⟨#[112, 111, 108, 105, 99, 121]⟩ ++ P ∧ prE ⟨6, 1, b, x, v⟩ = 0) := by
      obtain ⟨h1, h2⟩ := pr_good (HG.out.2 rfl)
      refine ⟨?_, h2⟩
      rw [h1, ← HP.out]
      exact (text_pol 1 b x v greedyS rfl).symm
    go_wp2_with fail
    go_ret2
    exact ⟨by rw [HB.out.1, HB.out.2]; rfl, c5⟩
set_option maxRecDepth 100000 in
set_option maxHeartbeats 2000000 in
theorem print_poltwo (b : Int) (x v : ByteArray) (w : World) :
    Calls Tryz.prog 15 #[opA 6 2 b x v] w fun e w' => e = .returned (.tuple #[.string (prT ⟨6, 2, b, x, v⟩), .int .i64 (prE ⟨6, 2, b, x, v⟩)]) ∧ Below w.heap.size w w' := by
  obtain ⟨r, hr⟩ : ∃ r, decide ((⟨6, 2, 0, eB, eB⟩ : OpD) = ⟨6, 2, b, x, v⟩) = r := ⟨_, rfl⟩
  have hne : ∀ w, (binOp .neq 28 (opA 6 2 0 ⟨#[]⟩ ⟨#[]⟩) (opA 6 2 b x v)).run Tryz.prog w = .ok (.bool (!r)) w := op_neq ⟨6, 2, 0, eB, eB⟩ ⟨6, 2, b, x, v⟩ r hr
  obtain ⟨P, hP⟩ : ∃ P, (⟨#[32]⟩ : ByteArray) ++ benefitS = P := ⟨_, rfl⟩
  have hPs : P.size ≤ 100 := by rw [← hP, ByteArray.size_append]; decide
  have q1 : ¬ 9223372036854775807 < 6 + P.size := by omega
  have HP := Lib.hid hP
  clear hP hPs
  have HG : Hid (opGood ⟨6, 2, b, x, v⟩ ↔ r = true) := by
    show _ ↔ _
    rw [good6 rfl, ← hr, decide_eq_true_iff]
    constructor
    · rintro ⟨h1, h2, h3, h4⟩
      have e3 : b = 0 := h2
      have e4 : x = eB := h3
      have e5 : v = eB := h4
      rw [e3, e4, e5]
    · intro h3
      injection h3 with _ h4 h5 h6 h7
      exact ⟨by show (2 : Int) = 1 ∨ (2 : Int) = 2; decide, h5.symm, h6.symm, h7.symm⟩
  clear hr
  have hfn := func_some 98
  go_enter Tryz.func15, Tryz.ntmps15
  go_wp2_with fail
  have c0 : Below w.heap.size w (w.alloc (.cells #[.int .i64 6, .int .i64 2, .int .i64 b, .string x, .string v] 28)) := (Below.refl _ _).alloc (Nat.le_refl _) _
  have H0 := Lib.hid (OpBox.new w 6 2 b x v 28)
  generalize (w.alloc (.cells #[.int .i64 6, .int .i64 2, .int .i64 b, .string x, .string v] 28)) = w0 at *
  refine (of_policy _).mono ?_
  rintro e w1 ⟨rfl, b1⟩
  have H1 := Lib.hid (H0.out.below b1)
  have c1 := c0.trans (b1.mono c0.size)
  obtain ⟨⟨p0, p1, p2, p3, p4⟩, pf⟩ := H1.out
  clear b1 c0 H0 p1 p2 p3 p4 pf
  have aS : Below w1.heap.size w1 (w1.alloc (.cells #[.string ⟨#[112, 111, 108, 105, 99, 121]⟩, .func (.func 98) #[] #[], .func (.func 99) #[] #[]] 90)) := (Below.refl _ _).alloc (Nat.le_refl _) _
  have s0 : (w1.alloc (.cells #[.string ⟨#[112, 111, 108, 105, 99, 121]⟩, .func (.func 98) #[] #[], .func (.func 99) #[] #[]] 90)).cell? ⟨w1.heap.size, 0, none⟩ = some (.string ⟨#[112, 111, 108, 105, 99, 121]⟩) := new_cell (w := w1) #[.string ⟨#[112, 111, 108, 105, 99, 121]⟩, .func (.func 98) #[] #[], .func (.func 99) #[] #[]] 90 0 _ rfl
  have s1 : (w1.alloc (.cells #[.string ⟨#[112, 111, 108, 105, 99, 121]⟩, .func (.func 98) #[] #[], .func (.func 99) #[] #[]] 90)).cell? ⟨w1.heap.size, 1, none⟩ = some (.func (.func 98) #[] #[]) := new_cell (w := w1) #[.string ⟨#[112, 111, 108, 105, 99, 121]⟩, .func (.func 98) #[] #[], .func (.func 99) #[] #[]] 90 1 _ rfl
  have hS : w.heap.size < w1.heap.size := H1.out.lt
  have hS2 : w1.heap.size < (w1.alloc (.cells #[.string ⟨#[112, 111, 108, 105, 99, 121]⟩, .func (.func 98) #[] #[], .func (.func 99) #[] #[]] 90)).heap.size := by simp
  go_wp2_with fail
  generalize (w1.alloc (.cells #[.string ⟨#[112, 111, 108, 105, 99, 121]⟩, .func (.func 98) #[] #[], .func (.func 99) #[] #[]] 90)) = w2 at *
  obtain ⟨S, hSe⟩ : ∃ S, w1.heap.size = S := ⟨_, rfl⟩
  rw [hSe] at s0 s1 hS hS2
  have H2 := Lib.hid (H1.out.below aS)
  have p0' := cell_kept p0 aS
  have c2 := c1.trans (aS.mono c1.size)
  rw [hSe]
  clear hSe p0 c1 aS H1
  have q0 : (w2.alloc (.cells #[.int .i64 0, .int .i64 0, .int .i64 0, .string ⟨#[]⟩, .string ⟨#[]⟩] 28)).cell? ⟨w.heap.size, 0, none⟩ = some (.int .i64 6) := cell_old p0'
  go_region
  have aU := (Below.refl w2.heap.size w2).alloc (Nat.le_refl _) (.cells #[.int .i64 6, .int .i64 0, .int .i64 0, .string ⟨#[]⟩, .string ⟨#[]⟩] 28)
  have HU : Hid (OpBox (w2.alloc (.cells #[.int .i64 6, .int .i64 0, .int .i64 0, .string ⟨#[]⟩, .string ⟨#[]⟩] 28)).drew w2.heap.size 6 0 0 ⟨#[]⟩ ⟨#[]⟩) := Lib.hid (OpBox.new w2 6 0 0 ⟨#[]⟩ ⟨#[]⟩ 28).drew
  have H3 : Hid (OpBox (w2.alloc (.cells #[.int .i64 6, .int .i64 0, .int .i64 0, .string ⟨#[]⟩, .string ⟨#[]⟩] 28)).drew w.heap.size 6 2 b x v) := Lib.hid (H2.out.below aU).drew
  have t0 : (w2.alloc (.cells #[.int .i64 6, .int .i64 0, .int .i64 0, .string ⟨#[]⟩, .string ⟨#[]⟩] 28)).drew.cell? ⟨S, 0, none⟩ = some (.string ⟨#[112, 111, 108, 105, 99, 121]⟩) := cell_kept s0 aU.drew
  have t1 : (w2.alloc (.cells #[.int .i64 6, .int .i64 0, .int .i64 0, .string ⟨#[]⟩, .string ⟨#[]⟩] 28)).drew.cell? ⟨S, 1, none⟩ = some (.func (.func 98) #[] #[]) := cell_kept s1 aU.drew
  have c3 : Below w.heap.size w (w2.alloc (.cells #[.int .i64 6, .int .i64 0, .int .i64 0, .string ⟨#[]⟩, .string ⟨#[]⟩] 28)).drew := (c2.trans (aU.mono c2.size)).drew
  obtain ⟨U, hU⟩ : ∃ U, w2.heap.size = U := ⟨_, rfl⟩
  rw [hU] at HU hS2
  rw [hU]
  have hWU : w.heap.size < U := by omega
  have HWU := Lib.hid hWU
  have HSU := Lib.hid hS2
  generalize (w2.alloc (.cells #[.int .i64 6, .int .i64 0, .int .i64 0, .string ⟨#[]⟩, .string ⟨#[]⟩] 28)).drew = w3 at *
  clear aU q0 p0' s0 s1 c2 H2 hS hU hWU hS2
  obtain ⟨⟨p0, p1, p2, p3, p4⟩, pf⟩ := H3.out
  clear pf
  go_wp2_with fail
  refine (writePolicy_two 6 b x v _).mono ?_
  rw [HP.out]
  rintro e w4 ⟨rfl, b1⟩
  have H4 := Lib.hid (H3.out.below b1)
  have HU4 := Lib.hid (HU.out.below b1)
  have s0 := cell_kept t0 b1
  have c4 := c3.trans (b1.mono c3.size)
  obtain ⟨⟨u0, u1, u2, u3, u4⟩, uf⟩ := HU4.out
  have uf0 := uf 0
  have uf1 := uf 1
  have uf2 := uf 2
  have uf3 := uf 3
  have uf4 := uf 4
  clear uf b1 t0 t1 c3 H3 HU p0 p1 p2 p3 p4
  have HV := Lib.hid (set5_at HU4.out 6 2 0 ⟨#[]⟩ ⟨#[]⟩)
  have c5 := set5_below c4 (Nat.le_of_lt HWU.out) (.int .i64 6) (.int .i64 2) (.int .i64 0) (.string ⟨#[]⟩) (.string ⟨#[]⟩)
  have r0 := set5_off s0 (Nat.ne_of_lt HSU.out) (.int .i64 6) (.int .i64 2) (.int .i64 0) (.string ⟨#[]⟩) (.string ⟨#[]⟩)
  obtain ⟨⟨g0, g1, g2, g3, g4⟩, gf⟩ := H4.out
  have h0 := set5_off g0 (Nat.ne_of_lt HWU.out) (.int .i64 6) (.int .i64 2) (.int .i64 0) (.string ⟨#[]⟩) (.string ⟨#[]⟩)
  have h1 := set5_off g1 (Nat.ne_of_lt HWU.out) (.int .i64 6) (.int .i64 2) (.int .i64 0) (.string ⟨#[]⟩) (.string ⟨#[]⟩)
  have h2 := set5_off g2 (Nat.ne_of_lt HWU.out) (.int .i64 6) (.int .i64 2) (.int .i64 0) (.string ⟨#[]⟩) (.string ⟨#[]⟩)
  have h3 := set5_off g3 (Nat.ne_of_lt HWU.out) (.int .i64 6) (.int .i64 2) (.int .i64 0) (.string ⟨#[]⟩) (.string ⟨#[]⟩)
  have h4 := set5_off g4 (Nat.ne_of_lt HWU.out) (.int .i64 6) (.int .i64 2) (.int .i64 0) (.string ⟨#[]⟩) (.string ⟨#[]⟩)
  obtain ⟨⟨v0, v1, v2, v3, v4⟩, vf⟩ := HV.out
  clear g0 g1 g2 g3 g4 gf vf c4
  cases r with
  | false =>
    have HB : Hid (prT ⟨6, 2, b, x, v⟩ = ⟨#[]⟩ ∧ prE ⟨6, 2, b, x, v⟩ = 2) := pr_bad fun h => by cases HG.out.1 h
    go_wp2_with fail
    go_ret2
    exact ⟨by rw [HB.out.1, HB.out.2]; rfl, c5⟩
  | true =>
    have HB : Hid (prT ⟨6, 2, b, x, v⟩ = ⟨#[112, 111, 108, 105, 99, 121]⟩ ++ P ∧ prE ⟨6, 2, b, x, v⟩ = 0) := by
      obtain ⟨h1, h2⟩ := pr_good (HG.out.2 rfl)
      refine ⟨?_, h2⟩
      rw [h1, ← HP.out]
      exact (text_pol 2 b x v benefitS rfl).symm
    go_wp2_with fail
    go_ret2
    exact ⟨by rw [HB.out.1, HB.out.2]; rfl, c5⟩
set_option maxRecDepth 100000 in
set_option maxHeartbeats 2000000 in
theorem print_polbad (a b : Int) (x v : ByteArray) (ha : a < 1 ∨ 2 < a) (w : World) :
    Calls Tryz.prog 15 #[opA 6 a b x v] w fun e w' => e = .returned (.tuple #[.string (prT ⟨6, a, b, x, v⟩), .int .i64 (prE ⟨6, a, b, x, v⟩)]) ∧ Below w.heap.size w w' := by
  have HB : Hid (prT ⟨6, a, b, x, v⟩ = ⟨#[]⟩ ∧ prE ⟨6, a, b, x, v⟩ = 2) := pr_bad fun h => by
    obtain ⟨h1, _⟩ := (good6 (o := ⟨6, a, b, x, v⟩) rfl).1 h
    have h2 : a = 1 ∨ a = 2 := h1
    omega
  have HA := Lib.hid ha
  clear ha
  have hfn := func_some 98
  go_enter Tryz.func15, Tryz.ntmps15
  go_wp2_with fail
  have c0 : Below w.heap.size w (w.alloc (.cells #[.int .i64 6, .int .i64 a, .int .i64 b, .string x, .string v] 28)) := (Below.refl _ _).alloc (Nat.le_refl _) _
  have H0 := Lib.hid (OpBox.new w 6 a b x v 28)
  generalize (w.alloc (.cells #[.int .i64 6, .int .i64 a, .int .i64 b, .string x, .string v] 28)) = w0 at *
  refine (of_policy _).mono ?_
  rintro e w1 ⟨rfl, b1⟩
  have H1 := Lib.hid (H0.out.below b1)
  have c1 := c0.trans (b1.mono c0.size)
  obtain ⟨⟨p0, p1, p2, p3, p4⟩, pf⟩ := H1.out
  clear b1 c0 H0 p1 p2 p3 p4 pf
  have aS : Below w1.heap.size w1 (w1.alloc (.cells #[.string ⟨#[112, 111, 108, 105, 99, 121]⟩, .func (.func 98) #[] #[], .func (.func 99) #[] #[]] 90)) := (Below.refl _ _).alloc (Nat.le_refl _) _
  have s0 : (w1.alloc (.cells #[.string ⟨#[112, 111, 108, 105, 99, 121]⟩, .func (.func 98) #[] #[], .func (.func 99) #[] #[]] 90)).cell? ⟨w1.heap.size, 0, none⟩ = some (.string ⟨#[112, 111, 108, 105, 99, 121]⟩) := new_cell (w := w1) #[.string ⟨#[112, 111, 108, 105, 99, 121]⟩, .func (.func 98) #[] #[], .func (.func 99) #[] #[]] 90 0 _ rfl
  have s1 : (w1.alloc (.cells #[.string ⟨#[112, 111, 108, 105, 99, 121]⟩, .func (.func 98) #[] #[], .func (.func 99) #[] #[]] 90)).cell? ⟨w1.heap.size, 1, none⟩ = some (.func (.func 98) #[] #[]) := new_cell (w := w1) #[.string ⟨#[112, 111, 108, 105, 99, 121]⟩, .func (.func 98) #[] #[], .func (.func 99) #[] #[]] 90 1 _ rfl
  have hS : w.heap.size < w1.heap.size := H1.out.lt
  have hS2 : w1.heap.size < (w1.alloc (.cells #[.string ⟨#[112, 111, 108, 105, 99, 121]⟩, .func (.func 98) #[] #[], .func (.func 99) #[] #[]] 90)).heap.size := by simp
  go_wp2_with fail
  generalize (w1.alloc (.cells #[.string ⟨#[112, 111, 108, 105, 99, 121]⟩, .func (.func 98) #[] #[], .func (.func 99) #[] #[]] 90)) = w2 at *
  obtain ⟨S, hSe⟩ : ∃ S, w1.heap.size = S := ⟨_, rfl⟩
  rw [hSe] at s0 s1 hS hS2
  have H2 := Lib.hid (H1.out.below aS)
  have p0' := cell_kept p0 aS
  have c2 := c1.trans (aS.mono c1.size)
  rw [hSe]
  clear hSe p0 c1 aS H1
  have q0 : (w2.alloc (.cells #[.int .i64 0, .int .i64 0, .int .i64 0, .string ⟨#[]⟩, .string ⟨#[]⟩] 28)).cell? ⟨w.heap.size, 0, none⟩ = some (.int .i64 6) := cell_old p0'
  go_region
  have aU := (Below.refl w2.heap.size w2).alloc (Nat.le_refl _) (.cells #[.int .i64 6, .int .i64 0, .int .i64 0, .string ⟨#[]⟩, .string ⟨#[]⟩] 28)
  have HU : Hid (OpBox (w2.alloc (.cells #[.int .i64 6, .int .i64 0, .int .i64 0, .string ⟨#[]⟩, .string ⟨#[]⟩] 28)).drew w2.heap.size 6 0 0 ⟨#[]⟩ ⟨#[]⟩) := Lib.hid (OpBox.new w2 6 0 0 ⟨#[]⟩ ⟨#[]⟩ 28).drew
  have H3 : Hid (OpBox (w2.alloc (.cells #[.int .i64 6, .int .i64 0, .int .i64 0, .string ⟨#[]⟩, .string ⟨#[]⟩] 28)).drew w.heap.size 6 a b x v) := Lib.hid (H2.out.below aU).drew
  have t0 : (w2.alloc (.cells #[.int .i64 6, .int .i64 0, .int .i64 0, .string ⟨#[]⟩, .string ⟨#[]⟩] 28)).drew.cell? ⟨S, 0, none⟩ = some (.string ⟨#[112, 111, 108, 105, 99, 121]⟩) := cell_kept s0 aU.drew
  have t1 : (w2.alloc (.cells #[.int .i64 6, .int .i64 0, .int .i64 0, .string ⟨#[]⟩, .string ⟨#[]⟩] 28)).drew.cell? ⟨S, 1, none⟩ = some (.func (.func 98) #[] #[]) := cell_kept s1 aU.drew
  have c3 : Below w.heap.size w (w2.alloc (.cells #[.int .i64 6, .int .i64 0, .int .i64 0, .string ⟨#[]⟩, .string ⟨#[]⟩] 28)).drew := (c2.trans (aU.mono c2.size)).drew
  obtain ⟨U, hU⟩ : ∃ U, w2.heap.size = U := ⟨_, rfl⟩
  rw [hU] at HU hS2
  rw [hU]
  have hWU : w.heap.size < U := by omega
  have HWU := Lib.hid hWU
  have HSU := Lib.hid hS2
  generalize (w2.alloc (.cells #[.int .i64 6, .int .i64 0, .int .i64 0, .string ⟨#[]⟩, .string ⟨#[]⟩] 28)).drew = w3 at *
  clear aU q0 p0' s0 s1 c2 H2 hS hU hWU hS2
  obtain ⟨⟨p0, p1, p2, p3, p4⟩, pf⟩ := H3.out
  clear pf
  go_wp2_with fail
  refine (writePolicy_bad 6 a b x v HA.out _).mono ?_
  rintro e w4 ⟨rfl, b1⟩
  have H4 := Lib.hid (H3.out.below b1)
  have HU4 := Lib.hid (HU.out.below b1)
  have s0 := cell_kept t0 b1
  have c4 := c3.trans (b1.mono c3.size)
  obtain ⟨⟨u0, u1, u2, u3, u4⟩, uf⟩ := HU4.out
  have uf0 := uf 0
  have uf1 := uf 1
  have uf2 := uf 2
  have uf3 := uf 3
  have uf4 := uf 4
  clear uf b1 t0 t1 c3 H3 HU p0 p1 p2 p3 p4
  have HV := Lib.hid (set5_at HU4.out 0 0 0 ⟨#[]⟩ ⟨#[]⟩)
  have c5 := set5_below c4 (Nat.le_of_lt HWU.out) (.int .i64 0) (.int .i64 0) (.int .i64 0) (.string ⟨#[]⟩) (.string ⟨#[]⟩)
  have r0 := set5_off s0 (Nat.ne_of_lt HSU.out) (.int .i64 0) (.int .i64 0) (.int .i64 0) (.string ⟨#[]⟩) (.string ⟨#[]⟩)
  obtain ⟨⟨g0, g1, g2, g3, g4⟩, gf⟩ := H4.out
  have h0 := set5_off g0 (Nat.ne_of_lt HWU.out) (.int .i64 0) (.int .i64 0) (.int .i64 0) (.string ⟨#[]⟩) (.string ⟨#[]⟩)
  have h1 := set5_off g1 (Nat.ne_of_lt HWU.out) (.int .i64 0) (.int .i64 0) (.int .i64 0) (.string ⟨#[]⟩) (.string ⟨#[]⟩)
  have h2 := set5_off g2 (Nat.ne_of_lt HWU.out) (.int .i64 0) (.int .i64 0) (.int .i64 0) (.string ⟨#[]⟩) (.string ⟨#[]⟩)
  have h3 := set5_off g3 (Nat.ne_of_lt HWU.out) (.int .i64 0) (.int .i64 0) (.int .i64 0) (.string ⟨#[]⟩) (.string ⟨#[]⟩)
  have h4 := set5_off g4 (Nat.ne_of_lt HWU.out) (.int .i64 0) (.int .i64 0) (.int .i64 0) (.string ⟨#[]⟩) (.string ⟨#[]⟩)
  obtain ⟨⟨v0, v1, v2, v3, v4⟩, vf⟩ := HV.out
  clear g0 g1 g2 g3 g4 gf vf c4
  go_wp2_with fail
  go_ret2
  exact ⟨by rw [HB.out.1, HB.out.2]; rfl, c5⟩
theorem text_crash (a b : Int) (x v T : ByteArray) (hT : T.data.toList = crashI a b v.data.toList) (h : opGood ⟨7, a, b, x, v⟩) : (⟨#[99, 114, 97, 115, 104]⟩ : ByteArray) ++ (⟨#[32]⟩ ++ T) = pack (opT ⟨7, a, b, x, v⟩) := by
  rw [good7_text rfl h]
  apply ByteArray.ext
  apply Array.ext'
  simp [pack, wordL, hT]
theorem pE_zero (s : ByteArray) : (pE s == 0) = true ↔ goodP s := by
  by_cases h : goodP s
  · rw [(p_good h).2.2.2]
    exact ⟨fun _ => h, fun _ => rfl⟩
  · rw [(p_bad h).2.2.2]
    exact ⟨fun e => absurd e (by decide), fun e => absurd e h⟩
set_option maxRecDepth 100000 in
set_option maxHeartbeats 4000000 in
theorem print_crashno (a b : Int) (x v : ByteArray) (hb : b % 2 = 0) (ha0 : -9223372036854775808 ≤ a) (ha1 : a ≤ 9223372036854775807) (hv : v.size ≤ 100000) (m : Int) (w : World) (ht : Tab w) (he : Errs w) (hm : w.cell? ⟨0, 0, none⟩ = some (.int .i64 m)) :
    Calls Tryz.prog 15 #[opA 7 a b x v] w fun e w' => e = .returned (.tuple #[.string (prT ⟨7, a, b, x, v⟩), .int .i64 (prE ⟨7, a, b, x, v⟩)]) ∧ Below w.heap.size w w' := by
  obtain ⟨T, hT⟩ : ∃ T, pack (crashI a 0 v.data.toList) = T := ⟨_, rfl⟩
  have hTl : T.data.toList = crashI a 0 v.data.toList := by rw [← hT, pack_data]
  obtain ⟨g, hg⟩ : ∃ g, (pE T == 0) = g := ⟨_, rfl⟩
  obtain ⟨r, hr⟩ : ∃ r, decide ((⟨7, a, 0, eB, v⟩ : OpD) = ⟨7, a, b, x, v⟩) = r := ⟨_, rfl⟩
  have hne : ∀ w, (binOp .neq 28 (opA 7 a 0 ⟨#[]⟩ v) (opA 7 a b x v)).run Tryz.prog w = .ok (.bool (!r)) w := op_neq ⟨7, a, 0, eB, v⟩ ⟨7, a, b, x, v⟩ r hr
  have HG : Hid (opGood ⟨7, a, b, x, v⟩ ↔ (g = true ∧ r = true)) := by
    show _ ↔ _
    rw [← hg, pE_zero, ← hr, decide_eq_true_iff]
    constructor
    · intro h
      have hb2 : b = 0 ∨ b = 1 := good7_b rfl h
      have hbc : b = 0 := by omega
      have h2 := (good7 (o := ⟨7, a, b, x, v⟩) rfl hb2 (by rw [hTl, hbc])).1 h
      exact ⟨h2.2, by rw [hbc, show x = eB from h2.1]⟩
    · rintro ⟨h1, h2⟩
      injection h2 with _ _ h3 h4 _
      exact (good7 (o := ⟨7, a, b, x, v⟩) rfl (by show b = 0 ∨ b = 1; omega) (by rw [hTl, h3])).2 ⟨h4.symm, h1⟩
  have HTX : Hid (r = true → T.data.toList = crashI a b v.data.toList) := by
    intro h
    rw [← hr, decide_eq_true_iff] at h
    injection h with _ _ h3 _ _
    rw [hTl, h3]
  have hIs : (Lib.itoa a).length ≤ 21 := Lib.itoa_length_le a ha0 ha1
  obtain ⟨P, hP⟩ : ∃ P, (⟨#[32]⟩ : ByteArray) ++ T = P := ⟨_, rfl⟩
  have hPs : P.size ≤ 200000 := by
    rw [← hP, ByteArray.size_append, ← str_len T, hTl]
    unfold crashI
    simp
    have e1 : (⟨#[32]⟩ : ByteArray).size = 1 := rfl
    omega
  have q1 : ¬ 9223372036854775807 < 5 + P.size := by omega
  have HP := Lib.hid hP
  have HTL := Lib.hid hTl
  have HGG := Lib.hid hg
  have HA := Lib.hid (And.intro ha0 ha1)
  have HV := Lib.hid hv
  have HBB := Lib.hid hb
  have HT := Lib.hid ht
  have HE := Lib.hid he
  have HM := Lib.hid hm
  clear hT hTl hg hr hIs hP hPs ha0 ha1 hv ht he hm hb
  have hfn := func_some 100
  go_enter Tryz.func15, Tryz.ntmps15
  go_wp2_with fail
  have c0 : Below w.heap.size w (w.alloc (.cells #[.int .i64 7, .int .i64 a, .int .i64 b, .string x, .string v] 28)) := (Below.refl _ _).alloc (Nat.le_refl _) _
  have H0 := Lib.hid (OpBox.new w 7 a b x v 28)
  generalize (w.alloc (.cells #[.int .i64 7, .int .i64 a, .int .i64 b, .string x, .string v] 28)) = w0 at *
  refine (of_crash _).mono ?_
  rintro e w1 ⟨rfl, b1⟩
  have H1 := Lib.hid (H0.out.below b1)
  have c1 := c0.trans (b1.mono c0.size)
  obtain ⟨⟨p0, p1, p2, p3, p4⟩, pf⟩ := H1.out
  clear b1 c0 H0 p1 p2 p3 p4 pf
  have aS : Below w1.heap.size w1 (w1.alloc (.cells #[.string ⟨#[99, 114, 97, 115, 104]⟩, .func (.func 100) #[] #[], .func (.func 101) #[] #[]] 90)) := (Below.refl _ _).alloc (Nat.le_refl _) _
  have s0 : (w1.alloc (.cells #[.string ⟨#[99, 114, 97, 115, 104]⟩, .func (.func 100) #[] #[], .func (.func 101) #[] #[]] 90)).cell? ⟨w1.heap.size, 0, none⟩ = some (.string ⟨#[99, 114, 97, 115, 104]⟩) := new_cell (w := w1) #[.string ⟨#[99, 114, 97, 115, 104]⟩, .func (.func 100) #[] #[], .func (.func 101) #[] #[]] 90 0 _ rfl
  have s1 : (w1.alloc (.cells #[.string ⟨#[99, 114, 97, 115, 104]⟩, .func (.func 100) #[] #[], .func (.func 101) #[] #[]] 90)).cell? ⟨w1.heap.size, 1, none⟩ = some (.func (.func 100) #[] #[]) := new_cell (w := w1) #[.string ⟨#[99, 114, 97, 115, 104]⟩, .func (.func 100) #[] #[], .func (.func 101) #[] #[]] 90 1 _ rfl
  have hS : w.heap.size < w1.heap.size := H1.out.lt
  have hS2 : w1.heap.size < (w1.alloc (.cells #[.string ⟨#[99, 114, 97, 115, 104]⟩, .func (.func 100) #[] #[], .func (.func 101) #[] #[]] 90)).heap.size := by simp
  go_wp2_with fail
  generalize (w1.alloc (.cells #[.string ⟨#[99, 114, 97, 115, 104]⟩, .func (.func 100) #[] #[], .func (.func 101) #[] #[]] 90)) = w2 at *
  obtain ⟨S, hSe⟩ : ∃ S, w1.heap.size = S := ⟨_, rfl⟩
  rw [hSe] at s0 s1 hS hS2
  have H2 := Lib.hid (H1.out.below aS)
  have p0' := cell_kept p0 aS
  have c2 := c1.trans (aS.mono c1.size)
  rw [hSe]
  clear hSe p0 c1 aS H1
  have q0 : (w2.alloc (.cells #[.int .i64 0, .int .i64 0, .int .i64 0, .string ⟨#[]⟩, .string ⟨#[]⟩] 28)).cell? ⟨w.heap.size, 0, none⟩ = some (.int .i64 7) := cell_old p0'
  go_region
  have aU := (Below.refl w2.heap.size w2).alloc (Nat.le_refl _) (.cells #[.int .i64 7, .int .i64 0, .int .i64 0, .string ⟨#[]⟩, .string ⟨#[]⟩] 28)
  have HU : Hid (OpBox (w2.alloc (.cells #[.int .i64 7, .int .i64 0, .int .i64 0, .string ⟨#[]⟩, .string ⟨#[]⟩] 28)).drew w2.heap.size 7 0 0 ⟨#[]⟩ ⟨#[]⟩) := Lib.hid (OpBox.new w2 7 0 0 ⟨#[]⟩ ⟨#[]⟩ 28).drew
  have H3 : Hid (OpBox (w2.alloc (.cells #[.int .i64 7, .int .i64 0, .int .i64 0, .string ⟨#[]⟩, .string ⟨#[]⟩] 28)).drew w.heap.size 7 a b x v) := Lib.hid (H2.out.below aU).drew
  have t0 : (w2.alloc (.cells #[.int .i64 7, .int .i64 0, .int .i64 0, .string ⟨#[]⟩, .string ⟨#[]⟩] 28)).drew.cell? ⟨S, 0, none⟩ = some (.string ⟨#[99, 114, 97, 115, 104]⟩) := cell_kept s0 aU.drew
  have t1 : (w2.alloc (.cells #[.int .i64 7, .int .i64 0, .int .i64 0, .string ⟨#[]⟩, .string ⟨#[]⟩] 28)).drew.cell? ⟨S, 1, none⟩ = some (.func (.func 100) #[] #[]) := cell_kept s1 aU.drew
  have c3 : Below w.heap.size w (w2.alloc (.cells #[.int .i64 7, .int .i64 0, .int .i64 0, .string ⟨#[]⟩, .string ⟨#[]⟩] 28)).drew := (c2.trans (aU.mono c2.size)).drew
  obtain ⟨U, hU⟩ : ∃ U, w2.heap.size = U := ⟨_, rfl⟩
  rw [hU] at HU hS2
  rw [hU]
  have hWU : w.heap.size < U := by omega
  have HWU := Lib.hid hWU
  have HSU := Lib.hid hS2
  generalize (w2.alloc (.cells #[.int .i64 7, .int .i64 0, .int .i64 0, .string ⟨#[]⟩, .string ⟨#[]⟩] 28)).drew = w3 at *
  clear aU q0 p0' s0 s1 c2 H2 hS hU hWU hS2
  obtain ⟨⟨p0, p1, p2, p3, p4⟩, pf⟩ := H3.out
  clear pf
  go_wp2_with fail
  refine (writeCrash_no 7 a b x v HBB.out HA.out.1 HA.out.2 HV.out T HTL.out g HGG.out m _ (HT.out.below c3) (HE.out.below c3) (cell_kept HM.out c3)).mono ?_
  rw [HP.out]
  rintro e w4 ⟨rfl, b1⟩
  have H4 := Lib.hid (H3.out.below b1)
  have HU4 := Lib.hid (HU.out.below b1)
  have s0 := cell_kept t0 b1
  have c4 := c3.trans (b1.mono c3.size)
  obtain ⟨⟨u0, u1, u2, u3, u4⟩, uf⟩ := HU4.out
  have uf0 := uf 0
  have uf1 := uf 1
  have uf2 := uf 2
  have uf3 := uf 3
  have uf4 := uf 4
  clear uf b1 t0 t1 c3 H3 HU p0 p1 p2 p3 p4
  have HV := Lib.hid (set5_at HU4.out 7 a 0 ⟨#[]⟩ v)
  have c5 := set5_below c4 (Nat.le_of_lt HWU.out) (.int .i64 7) (.int .i64 a) (.int .i64 0) (.string ⟨#[]⟩) (.string v)
  have r0 := set5_off s0 (Nat.ne_of_lt HSU.out) (.int .i64 7) (.int .i64 a) (.int .i64 0) (.string ⟨#[]⟩) (.string v)
  obtain ⟨⟨g0, g1, g2, g3, g4⟩, gf⟩ := H4.out
  have h0 := set5_off g0 (Nat.ne_of_lt HWU.out) (.int .i64 7) (.int .i64 a) (.int .i64 0) (.string ⟨#[]⟩) (.string v)
  have h1 := set5_off g1 (Nat.ne_of_lt HWU.out) (.int .i64 7) (.int .i64 a) (.int .i64 0) (.string ⟨#[]⟩) (.string v)
  have h2 := set5_off g2 (Nat.ne_of_lt HWU.out) (.int .i64 7) (.int .i64 a) (.int .i64 0) (.string ⟨#[]⟩) (.string v)
  have h3 := set5_off g3 (Nat.ne_of_lt HWU.out) (.int .i64 7) (.int .i64 a) (.int .i64 0) (.string ⟨#[]⟩) (.string v)
  have h4 := set5_off g4 (Nat.ne_of_lt HWU.out) (.int .i64 7) (.int .i64 a) (.int .i64 0) (.string ⟨#[]⟩) (.string v)
  obtain ⟨⟨v0, v1, v2, v3, v4⟩, vf⟩ := HV.out
  clear g0 g1 g2 g3 g4 gf vf c4
  clear HTL HGG HA HV HBB HT HE HM
  cases g with
  | false =>
    have HB : Hid (prT ⟨7, a, b, x, v⟩ = ⟨#[]⟩ ∧ prE ⟨7, a, b, x, v⟩ = 2) := pr_bad fun h => by cases (HG.out.1 h).1
    go_wp2_with fail
    go_ret2
    exact ⟨by rw [HB.out.1, HB.out.2]; rfl, c5⟩
  | true =>
    cases r with
    | false =>
      have HB : Hid (prT ⟨7, a, b, x, v⟩ = ⟨#[]⟩ ∧ prE ⟨7, a, b, x, v⟩ = 2) := pr_bad fun h => by cases (HG.out.1 h).2
      go_wp2_with fail
      go_ret2
      exact ⟨by rw [HB.out.1, HB.out.2]; rfl, c5⟩
    | true =>
      have HB : Hid (prT ⟨7, a, b, x, v⟩ = ⟨#[99, 114, 97, 115, 104]⟩ ++ P ∧ prE ⟨7, a, b, x, v⟩ = 0) := by
        have hgo := HG.out.2 ⟨rfl, rfl⟩
        obtain ⟨h1, h2⟩ := pr_good hgo
        refine ⟨?_, h2⟩
        rw [h1, ← HP.out]
        exact (text_crash a b x v T (HTX.out rfl) hgo).symm
      go_wp2_with fail
      go_ret2
      exact ⟨by rw [HB.out.1, HB.out.2]; rfl, c5⟩
set_option maxRecDepth 100000 in
set_option maxHeartbeats 4000000 in
theorem print_crashyes (a b : Int) (x v : ByteArray) (hb : b % 2 = 1) (ha0 : -9223372036854775808 ≤ a) (ha1 : a ≤ 9223372036854775807) (hv : v.size ≤ 100000) (m : Int) (w : World) (ht : Tab w) (he : Errs w) (hm : w.cell? ⟨0, 0, none⟩ = some (.int .i64 m)) :
    Calls Tryz.prog 15 #[opA 7 a b x v] w fun e w' => e = .returned (.tuple #[.string (prT ⟨7, a, b, x, v⟩), .int .i64 (prE ⟨7, a, b, x, v⟩)]) ∧ Below w.heap.size w w' := by
  obtain ⟨T, hT⟩ : ∃ T, pack (crashI a 1 v.data.toList) = T := ⟨_, rfl⟩
  have hTl : T.data.toList = crashI a 1 v.data.toList := by rw [← hT, pack_data]
  obtain ⟨g, hg⟩ : ∃ g, (pE T == 0) = g := ⟨_, rfl⟩
  obtain ⟨r, hr⟩ : ∃ r, decide ((⟨7, a, 1, eB, v⟩ : OpD) = ⟨7, a, b, x, v⟩) = r := ⟨_, rfl⟩
  have hne : ∀ w, (binOp .neq 28 (opA 7 a 1 ⟨#[]⟩ v) (opA 7 a b x v)).run Tryz.prog w = .ok (.bool (!r)) w := op_neq ⟨7, a, 1, eB, v⟩ ⟨7, a, b, x, v⟩ r hr
  have HG : Hid (opGood ⟨7, a, b, x, v⟩ ↔ (g = true ∧ r = true)) := by
    show _ ↔ _
    rw [← hg, pE_zero, ← hr, decide_eq_true_iff]
    constructor
    · intro h
      have hb2 : b = 0 ∨ b = 1 := good7_b rfl h
      have hbc : b = 1 := by omega
      have h2 := (good7 (o := ⟨7, a, b, x, v⟩) rfl hb2 (by rw [hTl, hbc])).1 h
      exact ⟨h2.2, by rw [hbc, show x = eB from h2.1]⟩
    · rintro ⟨h1, h2⟩
      injection h2 with _ _ h3 h4 _
      exact (good7 (o := ⟨7, a, b, x, v⟩) rfl (by show b = 0 ∨ b = 1; omega) (by rw [hTl, h3])).2 ⟨h4.symm, h1⟩
  have HTX : Hid (r = true → T.data.toList = crashI a b v.data.toList) := by
    intro h
    rw [← hr, decide_eq_true_iff] at h
    injection h with _ _ h3 _ _
    rw [hTl, h3]
  have hIs : (Lib.itoa a).length ≤ 21 := Lib.itoa_length_le a ha0 ha1
  obtain ⟨P, hP⟩ : ∃ P, (⟨#[32]⟩ : ByteArray) ++ T = P := ⟨_, rfl⟩
  have hPs : P.size ≤ 200000 := by
    rw [← hP, ByteArray.size_append, ← str_len T, hTl]
    unfold crashI
    simp
    have e1 : (⟨#[32]⟩ : ByteArray).size = 1 := rfl
    omega
  have q1 : ¬ 9223372036854775807 < 5 + P.size := by omega
  have HP := Lib.hid hP
  have HTL := Lib.hid hTl
  have HGG := Lib.hid hg
  have HA := Lib.hid (And.intro ha0 ha1)
  have HV := Lib.hid hv
  have HBB := Lib.hid hb
  have HT := Lib.hid ht
  have HE := Lib.hid he
  have HM := Lib.hid hm
  clear hT hTl hg hr hIs hP hPs ha0 ha1 hv ht he hm hb
  have hfn := func_some 100
  go_enter Tryz.func15, Tryz.ntmps15
  go_wp2_with fail
  have c0 : Below w.heap.size w (w.alloc (.cells #[.int .i64 7, .int .i64 a, .int .i64 b, .string x, .string v] 28)) := (Below.refl _ _).alloc (Nat.le_refl _) _
  have H0 := Lib.hid (OpBox.new w 7 a b x v 28)
  generalize (w.alloc (.cells #[.int .i64 7, .int .i64 a, .int .i64 b, .string x, .string v] 28)) = w0 at *
  refine (of_crash _).mono ?_
  rintro e w1 ⟨rfl, b1⟩
  have H1 := Lib.hid (H0.out.below b1)
  have c1 := c0.trans (b1.mono c0.size)
  obtain ⟨⟨p0, p1, p2, p3, p4⟩, pf⟩ := H1.out
  clear b1 c0 H0 p1 p2 p3 p4 pf
  have aS : Below w1.heap.size w1 (w1.alloc (.cells #[.string ⟨#[99, 114, 97, 115, 104]⟩, .func (.func 100) #[] #[], .func (.func 101) #[] #[]] 90)) := (Below.refl _ _).alloc (Nat.le_refl _) _
  have s0 : (w1.alloc (.cells #[.string ⟨#[99, 114, 97, 115, 104]⟩, .func (.func 100) #[] #[], .func (.func 101) #[] #[]] 90)).cell? ⟨w1.heap.size, 0, none⟩ = some (.string ⟨#[99, 114, 97, 115, 104]⟩) := new_cell (w := w1) #[.string ⟨#[99, 114, 97, 115, 104]⟩, .func (.func 100) #[] #[], .func (.func 101) #[] #[]] 90 0 _ rfl
  have s1 : (w1.alloc (.cells #[.string ⟨#[99, 114, 97, 115, 104]⟩, .func (.func 100) #[] #[], .func (.func 101) #[] #[]] 90)).cell? ⟨w1.heap.size, 1, none⟩ = some (.func (.func 100) #[] #[]) := new_cell (w := w1) #[.string ⟨#[99, 114, 97, 115, 104]⟩, .func (.func 100) #[] #[], .func (.func 101) #[] #[]] 90 1 _ rfl
  have hS : w.heap.size < w1.heap.size := H1.out.lt
  have hS2 : w1.heap.size < (w1.alloc (.cells #[.string ⟨#[99, 114, 97, 115, 104]⟩, .func (.func 100) #[] #[], .func (.func 101) #[] #[]] 90)).heap.size := by simp
  go_wp2_with fail
  generalize (w1.alloc (.cells #[.string ⟨#[99, 114, 97, 115, 104]⟩, .func (.func 100) #[] #[], .func (.func 101) #[] #[]] 90)) = w2 at *
  obtain ⟨S, hSe⟩ : ∃ S, w1.heap.size = S := ⟨_, rfl⟩
  rw [hSe] at s0 s1 hS hS2
  have H2 := Lib.hid (H1.out.below aS)
  have p0' := cell_kept p0 aS
  have c2 := c1.trans (aS.mono c1.size)
  rw [hSe]
  clear hSe p0 c1 aS H1
  have q0 : (w2.alloc (.cells #[.int .i64 0, .int .i64 0, .int .i64 0, .string ⟨#[]⟩, .string ⟨#[]⟩] 28)).cell? ⟨w.heap.size, 0, none⟩ = some (.int .i64 7) := cell_old p0'
  go_region
  have aU := (Below.refl w2.heap.size w2).alloc (Nat.le_refl _) (.cells #[.int .i64 7, .int .i64 0, .int .i64 0, .string ⟨#[]⟩, .string ⟨#[]⟩] 28)
  have HU : Hid (OpBox (w2.alloc (.cells #[.int .i64 7, .int .i64 0, .int .i64 0, .string ⟨#[]⟩, .string ⟨#[]⟩] 28)).drew w2.heap.size 7 0 0 ⟨#[]⟩ ⟨#[]⟩) := Lib.hid (OpBox.new w2 7 0 0 ⟨#[]⟩ ⟨#[]⟩ 28).drew
  have H3 : Hid (OpBox (w2.alloc (.cells #[.int .i64 7, .int .i64 0, .int .i64 0, .string ⟨#[]⟩, .string ⟨#[]⟩] 28)).drew w.heap.size 7 a b x v) := Lib.hid (H2.out.below aU).drew
  have t0 : (w2.alloc (.cells #[.int .i64 7, .int .i64 0, .int .i64 0, .string ⟨#[]⟩, .string ⟨#[]⟩] 28)).drew.cell? ⟨S, 0, none⟩ = some (.string ⟨#[99, 114, 97, 115, 104]⟩) := cell_kept s0 aU.drew
  have t1 : (w2.alloc (.cells #[.int .i64 7, .int .i64 0, .int .i64 0, .string ⟨#[]⟩, .string ⟨#[]⟩] 28)).drew.cell? ⟨S, 1, none⟩ = some (.func (.func 100) #[] #[]) := cell_kept s1 aU.drew
  have c3 : Below w.heap.size w (w2.alloc (.cells #[.int .i64 7, .int .i64 0, .int .i64 0, .string ⟨#[]⟩, .string ⟨#[]⟩] 28)).drew := (c2.trans (aU.mono c2.size)).drew
  obtain ⟨U, hU⟩ : ∃ U, w2.heap.size = U := ⟨_, rfl⟩
  rw [hU] at HU hS2
  rw [hU]
  have hWU : w.heap.size < U := by omega
  have HWU := Lib.hid hWU
  have HSU := Lib.hid hS2
  generalize (w2.alloc (.cells #[.int .i64 7, .int .i64 0, .int .i64 0, .string ⟨#[]⟩, .string ⟨#[]⟩] 28)).drew = w3 at *
  clear aU q0 p0' s0 s1 c2 H2 hS hU hWU hS2
  obtain ⟨⟨p0, p1, p2, p3, p4⟩, pf⟩ := H3.out
  clear pf
  go_wp2_with fail
  refine (writeCrash_yes 7 a b x v HBB.out HA.out.1 HA.out.2 HV.out T HTL.out g HGG.out m _ (HT.out.below c3) (HE.out.below c3) (cell_kept HM.out c3)).mono ?_
  rw [HP.out]
  rintro e w4 ⟨rfl, b1⟩
  have H4 := Lib.hid (H3.out.below b1)
  have HU4 := Lib.hid (HU.out.below b1)
  have s0 := cell_kept t0 b1
  have c4 := c3.trans (b1.mono c3.size)
  obtain ⟨⟨u0, u1, u2, u3, u4⟩, uf⟩ := HU4.out
  have uf0 := uf 0
  have uf1 := uf 1
  have uf2 := uf 2
  have uf3 := uf 3
  have uf4 := uf 4
  clear uf b1 t0 t1 c3 H3 HU p0 p1 p2 p3 p4
  have HV := Lib.hid (set5_at HU4.out 7 a 1 ⟨#[]⟩ v)
  have c5 := set5_below c4 (Nat.le_of_lt HWU.out) (.int .i64 7) (.int .i64 a) (.int .i64 1) (.string ⟨#[]⟩) (.string v)
  have r0 := set5_off s0 (Nat.ne_of_lt HSU.out) (.int .i64 7) (.int .i64 a) (.int .i64 1) (.string ⟨#[]⟩) (.string v)
  obtain ⟨⟨g0, g1, g2, g3, g4⟩, gf⟩ := H4.out
  have h0 := set5_off g0 (Nat.ne_of_lt HWU.out) (.int .i64 7) (.int .i64 a) (.int .i64 1) (.string ⟨#[]⟩) (.string v)
  have h1 := set5_off g1 (Nat.ne_of_lt HWU.out) (.int .i64 7) (.int .i64 a) (.int .i64 1) (.string ⟨#[]⟩) (.string v)
  have h2 := set5_off g2 (Nat.ne_of_lt HWU.out) (.int .i64 7) (.int .i64 a) (.int .i64 1) (.string ⟨#[]⟩) (.string v)
  have h3 := set5_off g3 (Nat.ne_of_lt HWU.out) (.int .i64 7) (.int .i64 a) (.int .i64 1) (.string ⟨#[]⟩) (.string v)
  have h4 := set5_off g4 (Nat.ne_of_lt HWU.out) (.int .i64 7) (.int .i64 a) (.int .i64 1) (.string ⟨#[]⟩) (.string v)
  obtain ⟨⟨v0, v1, v2, v3, v4⟩, vf⟩ := HV.out
  clear g0 g1 g2 g3 g4 gf vf c4
  clear HTL HGG HA HV HBB HT HE HM
  cases g with
  | false =>
    have HB : Hid (prT ⟨7, a, b, x, v⟩ = ⟨#[]⟩ ∧ prE ⟨7, a, b, x, v⟩ = 2) := pr_bad fun h => by cases (HG.out.1 h).1
    go_wp2_with fail
    go_ret2
    exact ⟨by rw [HB.out.1, HB.out.2]; rfl, c5⟩
  | true =>
    cases r with
    | false =>
      have HB : Hid (prT ⟨7, a, b, x, v⟩ = ⟨#[]⟩ ∧ prE ⟨7, a, b, x, v⟩ = 2) := pr_bad fun h => by cases (HG.out.1 h).2
      go_wp2_with fail
      go_ret2
      exact ⟨by rw [HB.out.1, HB.out.2]; rfl, c5⟩
    | true =>
      have HB : Hid (prT ⟨7, a, b, x, v⟩ = ⟨#[99, 114, 97, 115, 104]⟩ ++ P ∧ prE ⟨7, a, b, x, v⟩ = 0) := by
        have hgo := HG.out.2 ⟨rfl, rfl⟩
        obtain ⟨h1, h2⟩ := pr_good hgo
        refine ⟨?_, h2⟩
        rw [h1, ← HP.out]
        exact (text_crash a b x v T (HTX.out rfl) hgo).symm
      go_wp2_with fail
      go_ret2
      exact ⟨by rw [HB.out.1, HB.out.2]; rfl, c5⟩
/-- The library's tables and variables lie in the world. -/
def Env (m : Int) (w : World) : Prop := Tab w ∧ Errs w ∧ w.cell? ⟨0, 0, none⟩ = some (.int .i64 m)
theorem Env.below {m : Int} {w w' : World} (h : Env m w) (hb : Below w.heap.size w w') : Env m w' := ⟨h.1.below hb, h.2.1.below hb, cell_kept h.2.2 hb⟩
/-- The numbers of an operation have 64 bits, its strings at most 100,000 bytes. -/
def opFit (o : OpD) : Prop := (-9223372036854775808 ≤ o.a ∧ o.a ≤ 9223372036854775807) ∧ o.key.size ≤ 100000 ∧ o.val.size ≤ 100000
theorem print_any (k a b : Int) (x v : ByteArray) (hf : opFit ⟨k, a, b, x, v⟩) (m : Int) (w : World) (he : Env m w) :
    Calls Tryz.prog 15 #[opA k a b x v] w fun e w' => e = .returned (.tuple #[.string (prT ⟨k, a, b, x, v⟩), .int .i64 (prE ⟨k, a, b, x, v⟩)]) ∧ Below w.heap.size w w' := by
  obtain ⟨⟨ha0, ha1⟩, hx, hv⟩ := hf
  by_cases hk : k < 1 ∨ 8 < k
  · exact print_bad k a b x v hk w
  · rcases (show k = 1 ∨ k = 2 ∨ k = 3 ∨ k = 4 ∨ k = 5 ∨ k = 6 ∨ k = 7 ∨ k = 8 by omega) with rfl | rfl | rfl | rfl | rfl | rfl | rfl | rfl
    · exact print_put a b x v hx w
    · exact print_get a b x v hx w
    · exact print_delete a b x v hx w
    · exact print_sync a b x v w
    · exact print_step a b x v w
    · by_cases h1 : a = 1
      · rw [h1]; exact print_polone b x v w
      · by_cases h2 : a = 2
        · rw [h2]; exact print_poltwo b x v w
        · exact print_polbad a b x v (by omega) w
    · rcases two_cases b with h | h
      · exact print_crashno a b x v h ha0 ha1 hv m w he.1 he.2.1 he.2.2
      · exact print_crashyes a b x v h ha0 ha1 hv m w he.1 he.2.1 he.2.2
    · exact print_reopen a b x v w
set_option maxRecDepth 100000 in
theorem check_any39 (k a b : Int) (x v : ByteArray) (hf : opFit ⟨k, a, b, x, v⟩) (m : Int) (w : World) (he : Env m w) :
    Calls Tryz.prog 18 #[opA k a b x v] w fun e w' => e = .returned (.int .i64 (prE ⟨k, a, b, x, v⟩)) ∧ Below w.heap.size w w' := by
  obtain ⟨T, hT⟩ : ∃ T, prT ⟨k, a, b, x, v⟩ = T := ⟨_, rfl⟩
  obtain ⟨E, hE⟩ : ∃ E, prE ⟨k, a, b, x, v⟩ = E := ⟨_, rfl⟩
  rw [hE]
  have HF := Lib.hid hf
  have HV := Lib.hid he
  have HP := Lib.hid (And.intro hT hE)
  clear hf he hT hE
  go_enter Tryz.func18, Tryz.ntmps18
  go_wp2_with fail
  have c0 : Below w.heap.size w (w.alloc (.cells #[.int .i64 k, .int .i64 a, .int .i64 b, .string x, .string v] 28)) := (Below.refl _ _).alloc (Nat.le_refl _) _
  refine (print_any k a b x v HF.out m _ (HV.out.below c0)).mono ?_
  rw [HP.out.1, HP.out.2]
  rintro e w1 ⟨rfl, b1⟩
  have c1 := c0.trans (b1.mono c0.size)
  go_wp2_with fail
  go_ret
  exact ⟨rfl, c1⟩
end Go.Proofs.YtlmbcclggaflaaaGreatDoor
