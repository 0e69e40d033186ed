/-
  slices.Equal at operations.
  Plans: when two plans are equal, by the statements' own function.
  Plain Lean: whether bytes are the string of an operation, by reading them; strings that are not.
  The examples of layer 39 hold.
  The examples of layer 39 hold: the walk.
  What every statement of this seat shares: a world in which the listed tables and variables read as their initialisers lay them, and what the list gives to a walk.
  Conditions: as each theorem says (bytes: at most 100,000; the library's tables and variables lie in the world).
-/
import Derived.Test.YtlmbcclggaflaaaGreatDoorBuF
import Derived.Test.YtlmbcclggaflaaaGreatDoorBuB
import Derived.Test.YtlmbcclggaflaaaGreatDoorCards
import Derived.Test.YtlmbcclggaflaaaGreatDoorTie
import Derived.Test.YtlmbcclggaflaaaGreatDoorBuA
import Derived.Stop.LaidErr
import Derived.WalkKit
import Derived.ProofKit
import Derived.OpenShut
import Derived.Deep.DeepHandedRow
import Derived.Deep.DeepWitnessRowRef
import Derived.Lib.LaidTab
import Derived.Shelf.Vars
set_option linter.unusedVariables false
namespace Go.Proofs.YtlmbcclggaflaaaGreatDoor
open Go Go.RowKit

theorem ops_getD_eq {L M : List OpD} (hl : L.length = M.length) (h : ∀ j, j < L.length → L.getD j zeroOp = M.getD j zeroOp) : L = M := by
  refine List.ext_getElem hl fun j h1 h2 => ?_
  have := h j h1
  rw [List.getD, List.getD, List.getElem?_eq_getElem h1, List.getElem?_eq_getElem h2] at this
  exact this
set_option maxRecDepth 100000 in
set_option maxHeartbeats 2000000 in
theorem equalOps_any (v u : Value) (L M : List OpD) (w : World) (hv : OpsAt w v L) (hu : OpsAt w u M) (hl : L.length ≤ 1099511627776) :
    Calls Tryz.prog 22 #[v, u] w fun e w' => e = .returned (.bool (decide (L = M))) ∧ Below w.heap.size w w' := by
  obtain ⟨p, c, rfl, hc, hcell⟩ := hv
  obtain ⟨p2, c2, rfl, hc2, hcell2⟩ := hu
  by_cases hlen : L.length = M.length
  · have d0 : ((L.length : Int) != (M.length : Int)) = false := by rw [bne_eq_false_iff_eq]; omega
    have HL := Lib.hid hlen
    have HLL := Lib.hid hl
    have H1 := Lib.hid hcell
    have H2 := Lib.hid hcell2
    clear hc hc2 hcell hcell2 hl
    rw [← hlen]
    rw [← hlen] at d0
    clear hlen
    go_enter Tryz.func22, Tryz.ntmps22
    go_wp2_with fail
    go_loopw [5, 13] (fun _ s wr => ∃ i : Nat, i ≤ L.length ∧ s = .int .i64 i ∧ Hid (∀ j : Nat, j < i → L.getD j zeroOp = M.getD j zeroOp) ∧ Hid (Below w.heap.size w wr)) (fun _ s _ => L.length - (intOf s).toNat)
    case atStart => exact ⟨0, Nat.zero_le _, rfl, fun j hj => absurd hj (Nat.not_lt_zero _), Below.refl _ _⟩
    case round =>
      obtain ⟨i, hi, rfl, hA, hB⟩ := hrel
      by_cases hlt : i < L.length
      · have HLT := Lib.hid hlt
        obtain ⟨b1, o1, rfl, g1⟩ := H1.out (by omega)
        obtain ⟨b2, o2, rfl, g2⟩ := H2.out (by have := HL.out; omega)
        obtain ⟨z0, z1, z2, z3, z4⟩ := g1 i hlt
        obtain ⟨y0, y1, y2, y3, y4⟩ := g2 i (by have := HL.out; omega)
        obtain ⟨q, hq⟩ : ∃ q, L.getD i zeroOp = q := ⟨_, rfl⟩
        obtain ⟨r, hr⟩ : ∃ r, M.getD i zeroOp = r := ⟨_, rfl⟩
        rw [hq] at z0 z1 z2 z3 z4
        rw [hr] at y0 y1 y2 y3 y4
        have HQR := Lib.hid (And.intro hq hr)
        clear hq hr g1 g2
        obtain ⟨qk, qa, qb, qx, qv⟩ := q
        obtain ⟨rk, ra, rb, rx, rv⟩ := r
        obtain ⟨t, ht⟩ : ∃ t, decide ((⟨qk, qa, qb, qx, qv⟩ : OpD) = ⟨rk, ra, rb, rx, rv⟩) = t := ⟨_, rfl⟩
        have hne : ∀ w, (binOp .neq 28 (opA qk qa qb qx qv) (opA rk ra rb rx rv)).run Tryz.prog w = .ok (.bool (!t)) w := op_neq ⟨qk, qa, qb, qx, qv⟩ ⟨rk, ra, rb, rx, rv⟩ t ht
        have HT := Lib.hid ht
        clear ht
        replace z0 := cell_kept z0 hB.out
        replace z1 := cell_kept z1 hB.out
        replace z2 := cell_kept z2 hB.out
        replace z3 := cell_kept z3 hB.out
        replace z4 := cell_kept z4 hB.out
        replace y0 := cell_kept y0 hB.out
        replace y1 := cell_kept y1 hB.out
        replace y2 := cell_kept y2 hB.out
        replace y3 := cell_kept y3 hB.out
        replace y4 := cell_kept y4 hB.out
        have hlt2 : (i : Int) < (L.length : Int) := by omega
        have hsum : IntKind.i64.wrap ((i : Int) + 1) = (i : Int) + 1 := IntWalk.i64_in _ (by have := HLL.out; omega)
        go_wp2_with fail
        go_quiet (fail)
        have hb2 := Lib.hid (hB.out.trans ((⟨rfl, rfl, rfl, Nat.le_refl _, fun _ _ => rfl⟩ : Below wr.heap.size wr (wr.drewN nq)).mono hB.out.size))
        clear z0 z1 z2 z3 z4 y0 y1 y2 y3 y4 hB
        generalize wr.drewN nq = w2 at *
        cases t with
        | true =>
          have HW : Hid (∀ j : Nat, j < i + 1 → L.getD j zeroOp = M.getD j zeroOp) := by
            intro j hj
            by_cases e : j = i
            · subst e
              rw [HQR.out.1, HQR.out.2]
              exact of_decide_eq_true HT.out
            · exact hA.out j (by omega)
          go_wp2_with fail
          go_roundw
          case rel => exact ⟨i + 1, by omega, by go_num, HW, hb2⟩
          case measure => simp [intOf]; omega
        | false =>
          have HD : Hid (decide (L = M) = false) := by
            refine decide_eq_false fun e => ?_
            have h := of_decide_eq_false HT.out
            exact h (by rw [← HQR.out.1, ← HQR.out.2, e])
          go_wp2_with fail
          go_ret
          exact ⟨by rw [HD.out]; rfl, hb2.out⟩
      · obtain rfl : i = L.length := by omega
        have HD : Hid (decide (L = M) = true) := decide_eq_true (ops_getD_eq HL.out hA.out)
        go_wp2_with fail
        go_ret
        exact ⟨by rw [HD.out]; rfl, hB.out⟩
  · have d0 : ((L.length : Int) != (M.length : Int)) = true := by rw [bne_iff_ne]; omega
    have d1 : ((L.length : Int) == (M.length : Int)) = false := by rw [beq_eq_false_iff_ne]; omega
    have HD : Hid (decide (L = M) = false) := decide_eq_false fun e => hlen (by rw [e])
    clear hc hc2 hcell hcell2 hl hlen
    go_enter Tryz.func22, Tryz.ntmps22
    go_wp2_with fail
    go_ret
    exact ⟨by rw [HD.out]; rfl, Below.refl _ _⟩
end Go.Proofs.YtlmbcclggaflaaaGreatDoor
namespace Go.Proofs.YtlmbcclggaflaaaGreatDoor
open Go Go.RowKit

theorem equal_any (v v' : Value) (L L' : List Int) (w : World) (hv : IntsAt w v L) (hv' : IntsAt w v' L') (hl : L.length ≤ 1099511627776) (hl' : L'.length ≤ 1099511627776) :
    Calls Tryz.prog 58 #[v, v'] w fun e w' => e = .returned (.bool (decide (L = L'))) ∧ Below w.heap.size w w' := by
  obtain ⟨p, c, rfl, hc, hp⟩ := hv
  obtain ⟨p', c', rfl, hc', hp'⟩ := hv'
  by_cases hlen : L.length = L'.length
  · rcases Nat.eq_zero_or_pos L.length with h0 | h0
    · have e1 : L = [] := List.eq_nil_of_length_eq_zero h0
      have e2 : L' = [] := List.eq_nil_of_length_eq_zero (by omega)
      subst e1 e2
      refine (Tryz.slices_Equal_int_empty p p' c 0 c' w (by decide)).mono ?_
      rintro e w' ⟨rfl, rfl⟩
      exact ⟨rfl, Below.refl _ _⟩
    · obtain ⟨b, o, rfl, h1⟩ := hp h0
      obtain ⟨b', o', rfl, h2⟩ := hp' (by omega)
      refine (Tryz.slices_Equal_int b o L.length c b' o' L'.length c' L L' w (Nat.le_refl _) (Nat.le_refl _) (by omega) (by omega) h1 h2).mono ?_
      rintro e w' ⟨rfl, q, rfl⟩
      refine ⟨?_, ⟨rfl, rfl, rfl, Nat.le_refl _, fun _ _ => rfl⟩⟩
      rw [List.take_length, List.take_length]
      congr 2
      by_cases h : L = L'
      · rw [h, decide_eq_true rfl]; exact beq_self_eq_true _
      · rw [decide_eq_false h]; exact beq_false_of_ne h
  · refine (Tryz.slices_Equal_int_lens p p' L.length c L'.length c' w hlen).mono ?_
    rintro e w' ⟨rfl, rfl⟩
    refine ⟨?_, Below.refl _ _⟩
    rw [decide_eq_false fun h => hlen (by rw [h])]
end Go.Proofs.YtlmbcclggaflaaaGreatDoor
namespace Go.Proofs.YtlmbcclggaflaaaGreatDoor
open Go Go.RowKit

/-- Whether bytes are the string of an operation. -/
def validL (l : List UInt8) : Bool :=
  if kindL (hdL 32 l) = 1 then decide (keyV (hdL 32 (tlL 32 l)) = 0) && decide (l = wordL 1 ++ 32 :: (hdL 32 (tlL 32 l) ++ 32 :: (textV (parseV (tlL 32 (tlL 32 l))).1).1))
  else if kindL (hdL 32 l) = 2 then decide (keyV (tlL 32 l) = 0) && decide (l = wordL 2 ++ 32 :: tlL 32 l)
  else if kindL (hdL 32 l) = 3 then decide (keyV (tlL 32 l) = 0) && decide (l = wordL 3 ++ 32 :: tlL 32 l)
  else if kindL (hdL 32 l) = 6 then decide (l = wordL 6 ++ 32 :: polL 1) || decide (l = wordL 6 ++ 32 :: polL 2)
  else if kindL (hdL 32 l) = 7 then planOK (refA (tlL 32 l)) (refL (tlL 32 l)) && decide (tlL 32 l = textB (refA (tlL 32 l)) (refD (tlL 32 l)) (refL (tlL 32 l)))
  else decide (kindL (hdL 32 l) ≠ 0) && decide (l = wordL (kindL (hdL 32 l)))
theorem valid_of {o : OpD} {l : List UInt8} (hg : opGood o) (ht : opT o = l) : validL l = true := by
  obtain ⟨hk, hr⟩ := ext_kind hg ht
  unfold validL
  rw [hk, hr]
  rcases hg with ⟨h0, h1, h2, h3, h4⟩ | ⟨h0, h1, h2, h3, h4⟩ | ⟨h0, h1, h2, h3, h4⟩ | ⟨h0, h1, h2, h3, h4⟩ | ⟨h0, h1, h2, L, h3, h4⟩
  · rw [if_pos h0]
    have e : (opR o).drop 1 = o.key.data.toList ++ 32 :: (textV o.val.data.toList).1 := by unfold opR; rw [if_pos h0]; rfl
    obtain ⟨e1, e2⟩ := hd_at 32 o.key.data.toList (textV o.val.data.toList).1 (key_no h3)
    rw [e, e1, e2, parse_textV (by rw [str_len]; exact h4), h3, ← ht, good1_text h0]
    simp
  · have e : (opR o).drop 1 = o.key.data.toList := by unfold opR; rw [if_neg (by omega), if_pos h0]; rfl
    rw [if_neg (by omega), e, ← ht, good2_text h0]
    rcases h0 with h0 | h0
    · rw [if_pos h0, h3, h0]
      simp
    · rw [if_neg (by omega), if_pos h0, h3, h0]
      simp
  · rw [if_neg (by omega), if_neg (by omega), if_neg (by omega), if_neg (by omega), if_neg (by omega), ← ht, good4_text h0]
    have : o.kind ≠ 0 := by omega
    simp [this]
  · rw [if_neg (by omega), if_neg (by omega), if_neg (by omega), if_pos h0, ← ht, good6_text h0]
    rcases h1 with h1 | h1 <;> rw [h1] <;> decide
  · have e : (opR o).drop 1 = crashL o.a o.b o.val.data.toList := by unfold opR; rw [if_neg (by omega), if_neg (by omega), if_neg (by omega), if_pos h0]; rfl
    rw [if_neg (by omega), if_neg (by omega), if_neg (by omega), if_neg (by omega), if_pos h0, e]
    obtain ⟨g0, g1, g2, g3⟩ := crash_good (s := pack (crashL o.a o.b o.val.data.toList)) h1 h4 h3 (pack_data _)
    obtain ⟨_, r1, r2, r3⟩ := ref_good g0
    rw [pack_data] at r1 r2 r3
    rw [r1, r2, r3, g1, g2, g3, h3]
    rw [crash_text h1 h4]
    simp
theorem pe_bad {l : List UInt8} (h : validL l = false) : opP l = zeroOp ∧ opPE l = 8 := by
  rcases opP_cases l with ⟨h1, h2, _⟩ | ⟨h1, h2, _⟩
  · rw [valid_of h1 h2] at h
    cases h
  · exact ⟨h1, h2⟩
/-- The strings that are not those of operations. -/
def badB : List (List UInt8) := [[112, 117, 116, 32, 107],
  [112, 117, 116, 32, 107, 32],
  [112, 117, 116, 32, 107, 32, 54],
  [112, 117, 116, 32, 107, 32, 54, 71],
  [112, 117, 116, 32, 107, 32, 54, 65],
  [112, 117, 116, 32, 75, 32, 54, 49],
  [112, 117, 116, 32, 32, 107, 32, 54, 49],
  [112, 117, 116, 32, 107, 32, 54, 49, 32],
  [112, 117, 116, 32, 45, 32],
  [103, 101, 116],
  [103, 101, 116, 32],
  [103, 101, 116, 32, 107, 32, 107],
  [103, 101, 116, 32, 75],
  [103, 101, 116, 32, 107, 107, 107, 107, 107, 107, 107, 107, 107, 107, 107, 107, 107, 107, 107, 107, 107, 107, 107, 107, 107, 107, 107, 107, 107, 107, 107, 107, 107, 107, 107, 107, 107],
  [100, 101, 108, 101, 116, 101],
  [100, 101, 108, 101, 116, 101, 32, 32, 107],
  [115, 121, 110, 99, 32, 49],
  [115, 121, 110, 99, 32],
  [83, 116, 101, 112],
  [115, 116, 101, 112, 13],
  [112, 111, 108, 105, 99, 121],
  [112, 111, 108, 105, 99, 121, 32, 49],
  [112, 111, 108, 105, 99, 121, 32, 103, 114, 101, 101, 100, 121, 32],
  [99, 114, 97, 115, 104],
  [99, 114, 97, 115, 104, 32, 51, 32, 121],
  [99, 114, 97, 115, 104, 32, 48, 51, 32, 121, 32, 48],
  [99, 114, 97, 115, 104, 32, 51, 32, 121, 32, 56, 49, 57, 51],
  [99, 114, 97, 115, 104, 32, 51, 32, 121, 32, 48, 44],
  [114, 101, 111, 112, 101, 110, 32, 110, 111, 119],
  [120],
  [32, 35, 32, 120],
  [112, 117, 116, 115, 32, 107, 32, 54, 49]]
theorem dS_one (n : Nat) (h : n < 10) : dS (n : Int) = [hexD n] := by
  unfold dS
  rw [Int.toNat_natCast]
  exact hexD_dec n h
theorem valid7 {l : List UInt8} (hk : kindL (hdL 32 l) = 7) (A : Int) (d : Bool) (L : List Int) (ha : refA (tlL 32 l) = A) (hd : refD (tlL 32 l) = d) (hl : refL (tlL 32 l) = L) (ht : tlL 32 l ≠ textB A d L) : validL l = false := by
  unfold validL
  rw [hk, ha, hd, hl, if_neg (by decide), if_neg (by decide), if_neg (by decide), if_neg (by decide), if_pos rfl, decide_eq_false ht, Bool.and_false]
theorem text_30 : textB 3 true [0] = [51, 32, 121, 32, 48] := by
  rw [textB_eq]
  simp [keepT, dS, Lib.decDigits, Lib.join_one]
theorem vb0 : validL (badB.getD 0 []) = false := by kernel_rfl
theorem vb1 : validL (badB.getD 1 []) = false := by kernel_rfl
theorem vb2 : validL (badB.getD 2 []) = false := by kernel_rfl
theorem vb3 : validL (badB.getD 3 []) = false := by kernel_rfl
theorem vb4 : validL (badB.getD 4 []) = false := by kernel_rfl
theorem vb5 : validL (badB.getD 5 []) = false := by kernel_rfl
theorem vb6 : validL (badB.getD 6 []) = false := by kernel_rfl
theorem vb7 : validL (badB.getD 7 []) = false := by kernel_rfl
theorem vb8 : validL (badB.getD 8 []) = false := by kernel_rfl
theorem vb9 : validL (badB.getD 9 []) = false := by kernel_rfl
theorem vb10 : validL (badB.getD 10 []) = false := by kernel_rfl
theorem vb11 : validL (badB.getD 11 []) = false := by kernel_rfl
theorem vb12 : validL (badB.getD 12 []) = false := by kernel_rfl
theorem vb13 : validL (badB.getD 13 []) = false := by kernel_rfl
theorem vb14 : validL (badB.getD 14 []) = false := by kernel_rfl
theorem vb15 : validL (badB.getD 15 []) = false := by kernel_rfl
theorem vb16 : validL (badB.getD 16 []) = false := by kernel_rfl
theorem vb17 : validL (badB.getD 17 []) = false := by kernel_rfl
theorem vb18 : validL (badB.getD 18 []) = false := by kernel_rfl
theorem vb19 : validL (badB.getD 19 []) = false := by kernel_rfl
theorem vb20 : validL (badB.getD 20 []) = false := by kernel_rfl
theorem vb21 : validL (badB.getD 21 []) = false := by kernel_rfl
theorem vb22 : validL (badB.getD 22 []) = false := by kernel_rfl
theorem vb23 : validL (badB.getD 23 []) = false := by kernel_rfl
theorem vb24 : validL (badB.getD 24 []) = false := by kernel_rfl
theorem vb25 : validL (badB.getD 25 []) = false := by exact valid7 (by kernel_rfl) 3 true [0] (by kernel_rfl) (by kernel_rfl) (by kernel_rfl) (by rw [text_30]; decide)
theorem vb26 : validL (badB.getD 26 []) = false := by kernel_rfl
theorem vb27 : validL (badB.getD 27 []) = false := by exact valid7 (by kernel_rfl) 3 true [0] (by kernel_rfl) (by kernel_rfl) (by kernel_rfl) (by rw [text_30]; decide)
theorem vb28 : validL (badB.getD 28 []) = false := by kernel_rfl
theorem vb29 : validL (badB.getD 29 []) = false := by kernel_rfl
theorem vb30 : validL (badB.getD 30 []) = false := by kernel_rfl
theorem vb31 : validL (badB.getD 31 []) = false := by kernel_rfl
theorem bad_valid : ∀ n, n < 32 → validL (badB.getD n []) = false := by
  intro n hn
  rcases (show n = 0 ∨ n = 1 ∨ n = 2 ∨ n = 3 ∨ n = 4 ∨ n = 5 ∨ n = 6 ∨ n = 7 ∨ n = 8 ∨ n = 9 ∨ n = 10 ∨ n = 11 ∨ n = 12 ∨ n = 13 ∨ n = 14 ∨ n = 15 ∨ n = 16 ∨ n = 17 ∨ n = 18 ∨ n = 19 ∨ n = 20 ∨ n = 21 ∨ n = 22 ∨ n = 23 ∨ n = 24 ∨ n = 25 ∨ n = 26 ∨ n = 27 ∨ n = 28 ∨ n = 29 ∨ n = 30 ∨ n = 31 by omega) with rfl | rfl | rfl | rfl | rfl | rfl | rfl | rfl | rfl | rfl | rfl | rfl | rfl | rfl | rfl | rfl | rfl | rfl | rfl | rfl | rfl | rfl | rfl | rfl | rfl | rfl | rfl | rfl | rfl | rfl | rfl | rfl
  · exact vb0
  · exact vb1
  · exact vb2
  · exact vb3
  · exact vb4
  · exact vb5
  · exact vb6
  · exact vb7
  · exact vb8
  · exact vb9
  · exact vb10
  · exact vb11
  · exact vb12
  · exact vb13
  · exact vb14
  · exact vb15
  · exact vb16
  · exact vb17
  · exact vb18
  · exact vb19
  · exact vb20
  · exact vb21
  · exact vb22
  · exact vb23
  · exact vb24
  · exact vb25
  · exact vb26
  · exact vb27
  · exact vb28
  · exact vb29
  · exact vb30
  · exact vb31
theorem bad_no10 : ∀ x ∈ badB, (10 : UInt8) ∉ x := by decide
theorem bad_skip : ∀ x ∈ badB, skipL x = false := by decide
end Go.Proofs.YtlmbcclggaflaaaGreatDoor
namespace Go.Proofs.YtlmbcclggaflaaaGreatDoor
open Go Go.RowKit

abbrev kS : ByteArray := ⟨#[107]⟩
abbrev abS : ByteArray := ⟨#[97, 98]⟩
abbrev k5S : ByteArray := ⟨#[48, 44, 53, 44, 49, 48, 48]⟩
abbrev abkS : ByteArray := ⟨#[97, 46, 98]⟩
abbrev n8192 : ByteArray := ⟨#[56, 49, 57, 50]⟩
abbrev put1S : ByteArray := ⟨#[112, 117, 116, 32, 107, 32, 54, 49, 54, 50]⟩
abbrev put2S : ByteArray := ⟨#[112, 117, 116, 32, 107, 32, 45]⟩
abbrev crash3S : ByteArray := ⟨#[99, 114, 97, 115, 104, 32, 51, 32, 121, 32, 48, 44, 53, 44, 49, 48, 48]⟩
abbrev delS : ByteArray := ⟨#[100, 101, 108, 101, 116, 101, 32, 97, 46, 98]⟩
abbrev put6S : ByteArray := ⟨#[112, 117, 116, 32, 107, 32, 54]⟩
abbrev crash0S : ByteArray := ⟨#[99, 114, 97, 115, 104, 32, 48, 32, 110, 32, 56, 49, 57, 50]⟩
abbrev all1S : ByteArray := ⟨#[115, 121, 110, 99, 10, 10, 35, 32, 120, 10, 115, 116, 101, 112, 10]⟩
abbrev all2S : ByteArray := ⟨#[115, 121, 110, 99, 10, 10, 115, 116, 101, 112, 115]⟩
def syncO : OpD := ⟨4, 0, 0, eB, eB⟩
def stepO : OpD := ⟨5, 0, 0, eB, eB⟩
theorem good_put (x v : ByteArray) (h1 : keyV x.data.toList = 0) (h2 : v.size ≤ 512) : opGood ⟨1, 0, 0, x, v⟩ := (good1 rfl).2 ⟨rfl, rfl, h1, h2⟩
theorem sync_good : opGood syncO := (good4 (Or.inl rfl)).2 ⟨rfl, rfl, rfl, rfl⟩
theorem step_good : opGood stepO := (good4 (Or.inr (Or.inl rfl))).2 ⟨rfl, rfl, rfl, rfl⟩
theorem wk1_good : opGood ⟨1, 0, 0, kS, abS⟩ := good_put _ _ (by kernel_rfl) (by decide)
theorem wk2_good : opGood ⟨1, 0, 0, kS, ⟨#[]⟩⟩ := good_put _ _ (by kernel_rfl) (by decide)
theorem keep_k5 : k5S.data.toList = keepT [0, 5, 100] := by
  simp [keepT, dS, Lib.decDigits, joinc_two, Lib.join_one]
theorem keep_8192 : n8192.data.toList = keepT [8192] := by
  simp [keepT, dS, Lib.decDigits, Lib.join_one]
theorem wk3_good : opGood ⟨7, 3, 1, ⟨#[]⟩, k5S⟩ := Or.inr (Or.inr (Or.inr (Or.inr ⟨rfl, Or.inr rfl, rfl, [0, 5, 100], by decide, keep_k5⟩)))
theorem wk6_good : opGood ⟨7, 0, 0, ⟨#[]⟩, n8192⟩ := Or.inr (Or.inr (Or.inr (Or.inr ⟨rfl, Or.inl rfl, rfl, [8192], by decide, keep_8192⟩)))
theorem wk4_good : opGood ⟨3, 0, 0, abkS, ⟨#[]⟩⟩ := (good2 (Or.inr rfl)).2 ⟨rfl, rfl, by kernel_rfl, rfl⟩
theorem pr1 : prT ⟨1, 0, 0, kS, abS⟩ = put1S ∧ prE ⟨1, 0, 0, kS, abS⟩ = 0 := by
  obtain ⟨h1, h2⟩ := pr_good wk1_good
  refine ⟨?_, h2⟩
  rw [h1]
  rfl
theorem pr2 : prT ⟨1, 0, 0, kS, ⟨#[]⟩⟩ = put2S ∧ prE ⟨1, 0, 0, kS, ⟨#[]⟩⟩ = 0 := by
  obtain ⟨h1, h2⟩ := pr_good wk2_good
  refine ⟨?_, h2⟩
  rw [h1]
  rfl
theorem dS_3 : dS 3 = [51] := by simp [dS, Lib.decDigits]
theorem dS_0 : dS 0 = [48] := by simp [dS, Lib.decDigits]
theorem text3 : opT ⟨7, 3, 1, ⟨#[]⟩, k5S⟩ = crash3S.data.toList := by
  rw [good7_text rfl wk3_good, crashI_pos (by decide)]
  unfold crashL
  show wordL 7 ++ 32 :: (dS 3 ++ _) = _
  rw [dS_3]
  rfl
theorem text6 : opT ⟨7, 0, 0, ⟨#[]⟩, n8192⟩ = crash0S.data.toList := by
  rw [good7_text rfl wk6_good, crashI_pos (by decide)]
  unfold crashL
  show wordL 7 ++ 32 :: (dS 0 ++ _) = _
  rw [dS_0]
  rfl
theorem pr3 : prT ⟨7, 3, 1, ⟨#[]⟩, k5S⟩ = crash3S ∧ prE ⟨7, 3, 1, ⟨#[]⟩, k5S⟩ = 0 := by
  obtain ⟨h1, h2⟩ := pr_good wk3_good
  exact ⟨by rw [h1, text3]; exact data_pack _, h2⟩
theorem pa4 : opP delS.data.toList = ⟨3, 0, 0, abkS, ⟨#[]⟩⟩ ∧ opPE delS.data.toList = 0 := by
  have e : opT ⟨3, 0, 0, abkS, ⟨#[]⟩⟩ = delS.data.toList := by rw [good2_text (Or.inr rfl)]; rfl
  rw [← e]
  exact opP_text wk4_good
theorem pa5 : opP put6S.data.toList = zeroOp ∧ opPE put6S.data.toList = 8 := pe_bad (by kernel_rfl)
theorem pa6 : opP crash0S.data.toList = ⟨7, 0, 0, ⟨#[]⟩, n8192⟩ ∧ opPE crash0S.data.toList = 0 := by
  rw [← text6]
  exact opP_text wk6_good
theorem pcA : pc 10 all1S.data.toList = [opT syncO, [], [35, 32, 120], opT stepO, []] := by
  rw [show opT syncO = [115, 121, 110, 99] by rw [good4_text (Or.inl rfl)]; rfl, show opT stepO = [115, 116, 101, 112] by rw [good4_text (Or.inr (Or.inl rfl))]; rfl]
  kernel_rfl
theorem pcB : pc 10 all2S.data.toList = [opT syncO, [], [115, 116, 101, 112, 115]] := by
  rw [show opT syncO = [115, 121, 110, 99] by rw [good4_text (Or.inl rfl)]; rfl]
  kernel_rfl
theorem rda1 : rdA all1S = ([syncO, stepO], 0, 0) := by
  unfold rdA
  rw [if_neg (by decide), pcA, rd_op sync_good (by decide), rd_skip rfl, rd_skip rfl, rd_op step_good (by decide), rd_skip rfl, rd_nil]
  rfl
theorem rda2 : rdA all2S = ([], 3, 8) := by
  unfold rdA
  rw [if_neg (by decide), pcB, rd_op sync_good (by decide), rd_skip rfl, rd_bad (by kernel_rfl) (by decide) (by rw [(pe_bad (l := [115, 116, 101, 112, 115]) (by kernel_rfl)).2]; decide)]
  rfl
theorem pl3 : pA (planT ⟨7, 3, 1, ⟨#[]⟩, k5S⟩) = 3 ∧ pD (planT ⟨7, 3, 1, ⟨#[]⟩, k5S⟩) = true ∧ pL (planT ⟨7, 3, 1, ⟨#[]⟩, k5S⟩) = [0, 5, 100] := by
  obtain ⟨g0, g1, g2, g3⟩ := crash_good (s := planT ⟨7, 3, 1, ⟨#[]⟩, k5S⟩) (a := 3) (b := 1) (L := [0, 5, 100]) (Or.inr rfl) keep_k5 (by decide) (pack_data _)
  obtain ⟨e1, e2, e3, e4⟩ := p_good g0
  rw [e1, e2, e3, g1, g2, g3]
  exact ⟨rfl, rfl, rfl⟩
theorem OpsAt.two (w : World) (a b : OpD) (t : TypeId) : OpsAt (w.alloc (.cells #[.int .i64 a.kind, .int .i64 a.a, .int .i64 a.b, .string a.key, .string a.val, .int .i64 b.kind, .int .i64 b.a, .int .i64 b.b, .string b.key, .string b.val] t)) (.slice (some ⟨w.heap.size, 0, none⟩) 2 2) [a, b] :=
  ⟨_, 2, rfl, Nat.le_refl _, fun _ => ⟨w.heap.size, 0, rfl, fun i hi => by
    match i, hi with
    | 0, _ => exact ⟨new_cell _ _ 0 _ rfl, new_cell _ _ 1 _ rfl, new_cell _ _ 2 _ rfl, new_cell _ _ 3 _ rfl, new_cell _ _ 4 _ rfl⟩
    | 1, _ => exact ⟨new_cell _ _ 5 _ rfl, new_cell _ _ 6 _ rfl, new_cell _ _ 7 _ rfl, new_cell _ _ 8 _ rfl, new_cell _ _ 9 _ rfl⟩⟩⟩
theorem ints_three (w : World) (x y z : Int) (t : TypeId) : IntsAt (w.alloc (.cells #[.int .i64 x, .int .i64 y, .int .i64 z] t)) (.slice (some ⟨w.heap.size, 0, none⟩) 3 3) [x, y, z] :=
  ⟨_, 3, rfl, Nat.le_refl _, fun _ => ⟨w.heap.size, 0, rfl, fun i hi => by
    rw [Nat.zero_add]
    match i, hi with
    | 0, _ => exact new_cell _ _ 0 _ rfl
    | 1, _ => exact new_cell _ _ 1 _ rfl
    | 2, _ => exact new_cell _ _ 2 _ rfl⟩⟩
end Go.Proofs.YtlmbcclggaflaaaGreatDoor
namespace Go.Proofs.YtlmbcclggaflaaaGreatDoor
open Go Go.RowKit

theorem print_is (k a b : Int) (x v : ByteArray) (T : ByteArray) (E : Int) (h : prT ⟨k, a, b, x, v⟩ = T ∧ prE ⟨k, a, b, x, v⟩ = E) (hf : opFit ⟨k, a, b, x, v⟩) (m : Int) (w : World) (he : Env m w) :
    Calls Tryz.prog 15 #[opA k a b x v] w fun e w' => e = .returned (.tuple #[.string T, .int .i64 E]) ∧ Below w.heap.size w w' := by
  have := print_any k a b x v hf m w he
  rw [h.1, h.2] at this
  exact this
theorem parse_is (s : ByteArray) (hs : s.size ≤ 100000) (k a b : Int) (x v : ByteArray) (E : Int) (h : opP s.data.toList = ⟨k, a, b, x, v⟩ ∧ opPE s.data.toList = E) (m : Int) (w : World) (he : Env m w) :
    Calls Tryz.prog 28 #[.string s] w fun e w' => e = .returned (.tuple #[opA k a b x v, .int .i64 E]) ∧ Below w.heap.size w w' := by
  have := parse39_any s hs m w he
  rw [h.1, h.2] at this
  exact this
theorem parseAll_is (s : ByteArray) (hs : s.size ≤ 100000) (L : List OpD) (n E : Int) (h : rdA s = (L, n, E)) (m : Int) (w : World) (he : Env m w) :
    Calls Tryz.prog 21 #[.string s] w fun e w' => (∃ p c, e = .returned (.tuple #[.slice p L.length c, .int .i64 n, .int .i64 E]) ∧ OpsNew w.heap.size w' (.slice p L.length c) L) ∧ Below w.heap.size w w' := by
  refine (parseAll_any s hs m w he).mono ?_
  rintro e w' ⟨⟨v, rfl, hn⟩, hb⟩
  rw [h] at hn ⊢
  obtain ⟨p, c, rfl⟩ := ownsRow_slice hn
  exact ⟨⟨p, c, rfl, hn⟩, hb⟩
set_option maxRecDepth 100000 in
set_option maxHeartbeats 8000000 in
theorem works39_any (m : Int) (w : World) (he : Env m w) :
    Calls Tryz.prog 19 #[] w fun e w' => e = .returned (.bool true) ∧ Below w.heap.size w w' := by
  have HE := Lib.hid he
  have zf := zero_fit
  clear he
  have c1 := Lib.hid ((Below.refl w.heap.size w).alloc (Nat.le_refl _) (.cells #[.int .i64 7, .int .i64 3, .int .i64 1, .string ⟨#[]⟩, .string k5S] 28))
  have HC := Lib.hid (OpBox.new w 7 3 1 ⟨#[]⟩ k5S 28)
  clear zf
  go_enter Tryz.func19, Tryz.ntmps19
  go_wp2_with fail
  generalize (w.alloc (.cells #[.int .i64 7, .int .i64 3, .int .i64 1, .string ⟨#[]⟩, .string k5S] 28)) = w1 at *
  refine (print_is 1 0 0 kS abS put1S 0 pr1 ⟨zero_fit, by decide, by decide⟩ m _ (HE.out.below c1.out)).mono ?_
  rintro e w2 ⟨rfl, b1⟩
  have c2 := Lib.hid (c1.out.trans (b1.mono c1.out.size))
  clear c1
  have c1 := Lib.hid c2.out
  clear c2
  have hh := Lib.hid (HC.out.below b1)
  clear HC
  have HC := Lib.hid hh.out
  clear hh
  clear b1
  go_wp2_with fail
  refine (print_is 1 0 0 kS ⟨#[]⟩ put2S 0 pr2 ⟨zero_fit, by decide, by decide⟩ m _ (HE.out.below c1.out)).mono ?_
  rintro e w3 ⟨rfl, b1⟩
  have c2 := Lib.hid (c1.out.trans (b1.mono c1.out.size))
  clear c1
  have c1 := Lib.hid c2.out
  clear c2
  have hh := Lib.hid (HC.out.below b1)
  clear HC
  have HC := Lib.hid hh.out
  clear hh
  clear b1
  obtain ⟨⟨k0, k1, k2, k3, k4⟩, kf⟩ := HC.out
  clear kf
  go_wp2_with fail
  refine (print_is 7 3 1 ⟨#[]⟩ k5S crash3S 0 pr3 ⟨by decide, by decide, by decide⟩ m _ (HE.out.below c1.out)).mono ?_
  clear k0 k1 k2 k3 k4
  rintro e w4 ⟨rfl, b1⟩
  have c2 := Lib.hid (c1.out.trans (b1.mono c1.out.size))
  clear c1
  have c1 := Lib.hid c2.out
  clear c2
  have hh := Lib.hid (HC.out.below b1)
  clear HC
  have HC := Lib.hid hh.out
  clear hh
  clear b1
  go_wp2_with fail
  refine (parse_is delS (by decide) 3 0 0 abkS ⟨#[]⟩ 0 pa4 m _ (HE.out.below c1.out)).mono ?_
  rintro e w5 ⟨rfl, b1⟩
  have c2 := Lib.hid (c1.out.trans (b1.mono c1.out.size))
  clear c1
  have c1 := Lib.hid c2.out
  clear c2
  have hh := Lib.hid (HC.out.below b1)
  clear HC
  have HC := Lib.hid hh.out
  clear hh
  have b1 := (Below.refl w5.heap.size w5).alloc (Nat.le_refl _) (.cells #[.int .i64 3, .int .i64 0, .int .i64 0, .string abkS, .string ⟨#[]⟩] 28)
  have HD := Lib.hid (OpBox.new w5 3 0 0 abkS ⟨#[]⟩ 28)
  have c2 := Lib.hid (c1.out.trans (b1.mono c1.out.size))
  clear c1
  have c1 := Lib.hid c2.out
  clear c2
  have hh := Lib.hid (HC.out.below b1)
  clear HC
  have HC := Lib.hid hh.out
  clear hh
  clear b1
  go_wp2_with fail
  refine (parse_is put6S (by decide) 0 0 0 ⟨#[]⟩ ⟨#[]⟩ 8 pa5 m _ (HE.out.below c1.out)).mono ?_
  generalize (w5.alloc (.cells #[.int .i64 3, .int .i64 0, .int .i64 0, .string abkS, .string ⟨#[]⟩] 28)) = w6 at *
  obtain ⟨DD, hDD⟩ : ∃ DD, w5.heap.size = DD := ⟨_, rfl⟩
  rw [hDD] at HD
  rw [hDD]
  clear hDD
  rintro e w7 ⟨rfl, b1⟩
  have c2 := Lib.hid (c1.out.trans (b1.mono c1.out.size))
  clear c1
  have c1 := Lib.hid c2.out
  clear c2
  have hh := Lib.hid (HC.out.below b1)
  clear HC
  have HC := Lib.hid hh.out
  clear hh
  have hh := Lib.hid (HD.out.below b1)
  clear HD
  have HD := Lib.hid hh.out
  clear hh
  have b1 := (Below.refl w7.heap.size w7).alloc (Nat.le_refl _) (.cells #[.int .i64 0, .int .i64 0, .int .i64 0, .string ⟨#[]⟩, .string ⟨#[]⟩] 28)
  have c2 := Lib.hid (c1.out.trans (b1.mono c1.out.size))
  clear c1
  have c1 := Lib.hid c2.out
  clear c2
  have hh := Lib.hid (HC.out.below b1)
  clear HC
  have HC := Lib.hid hh.out
  clear hh
  have hh := Lib.hid (HD.out.below b1)
  clear HD
  have HD := Lib.hid hh.out
  clear hh
  clear b1
  go_wp2_with fail
  refine (parse_is crash0S (by decide) 7 0 0 ⟨#[]⟩ n8192 0 pa6 m _ (HE.out.below c1.out)).mono ?_
  generalize (w7.alloc (.cells #[.int .i64 0, .int .i64 0, .int .i64 0, .string ⟨#[]⟩, .string ⟨#[]⟩] 28)) = w8 at *
  rintro e w9 ⟨rfl, b1⟩
  have c2 := Lib.hid (c1.out.trans (b1.mono c1.out.size))
  clear c1
  have c1 := Lib.hid c2.out
  clear c2
  have hh := Lib.hid (HC.out.below b1)
  clear HC
  have HC := Lib.hid hh.out
  clear hh
  have hh := Lib.hid (HD.out.below b1)
  clear HD
  have HD := Lib.hid hh.out
  clear hh
  have b1 := (Below.refl w9.heap.size w9).alloc (Nat.le_refl _) (.cells #[.int .i64 7, .int .i64 0, .int .i64 0, .string ⟨#[]⟩, .string n8192] 28)
  have HX := Lib.hid (OpBox.new w9 7 0 0 ⟨#[]⟩ n8192 28)
  have c2 := Lib.hid (c1.out.trans (b1.mono c1.out.size))
  clear c1
  have c1 := Lib.hid c2.out
  clear c2
  have hh := Lib.hid (HC.out.below b1)
  clear HC
  have HC := Lib.hid hh.out
  clear hh
  have hh := Lib.hid (HD.out.below b1)
  clear HD
  have HD := Lib.hid hh.out
  clear hh
  clear b1
  go_wp2_with fail
  refine (parseAll_is all1S (by decide) [syncO, stepO] 0 0 rda1 m _ (HE.out.below c1.out)).mono ?_
  generalize (w9.alloc (.cells #[.int .i64 7, .int .i64 0, .int .i64 0, .string ⟨#[]⟩, .string n8192] 28)) = w10 at *
  obtain ⟨DX, hDX⟩ : ∃ DX, w9.heap.size = DX := ⟨_, rfl⟩
  rw [hDX] at HX
  rw [hDX]
  clear hDX
  rintro e w11 ⟨⟨pL, cL, rfl, hnL⟩, b1⟩
  have HL := Lib.hid (OpsNew.at hnL)
  have c2 := Lib.hid (c1.out.trans (b1.mono c1.out.size))
  clear c1
  have c1 := Lib.hid c2.out
  clear c2
  have hh := Lib.hid (HC.out.below b1)
  clear HC
  have HC := Lib.hid hh.out
  clear hh
  have hh := Lib.hid (HD.out.below b1)
  clear HD
  have HD := Lib.hid hh.out
  clear hh
  have hh := Lib.hid (HX.out.below b1)
  clear HX
  have HX := Lib.hid hh.out
  clear hh
  clear hnL b1
  go_wp2_with fail
  refine (parseAll_is all2S (by decide) [] 3 8 rda2 m _ (HE.out.below c1.out)).mono ?_
  rintro e w12 ⟨⟨pM, cM, rfl, hnM⟩, b1⟩
  have c2 := Lib.hid (c1.out.trans (b1.mono c1.out.size))
  clear c1
  have c1 := Lib.hid c2.out
  clear c2
  have hh := Lib.hid (HC.out.below b1)
  clear HC
  have HC := Lib.hid hh.out
  clear hh
  have hh := Lib.hid (HD.out.below b1)
  clear HD
  have HD := Lib.hid hh.out
  clear hh
  have hh := Lib.hid (HX.out.below b1)
  clear HX
  have HX := Lib.hid hh.out
  clear hh
  have hh := Lib.hid (HL.out.below b1)
  clear HL
  have HL := Lib.hid hh.out
  clear hh
  clear hnM b1
  obtain ⟨⟨k0, k1, k2, k3, k4⟩, kf⟩ := HC.out
  clear kf
  have hpl := oplan_good 3 1 ⟨#[]⟩ k5S ⟨by decide, by decide, by decide⟩ wk3_good m w12 (HE.out.below c1.out)
  rw [pl3.1, pl3.2.1, pl3.2.2] at hpl
  have HPL := Lib.hid hpl
  clear hpl
  go_wp2_with fail
  refine HPL.out.mono ?_
  clear k0 k1 k2 k3 k4 HPL
  rintro e w13 ⟨⟨s13, rfl, hn13⟩, b1⟩
  obtain ⟨p13, c13, rfl⟩ := ownsRow_slice hn13
  have c2 := Lib.hid (c1.out.trans (b1.mono c1.out.size))
  clear c1
  have c1 := Lib.hid c2.out
  clear c2
  have hh := Lib.hid (HD.out.below b1)
  clear HD
  have HD := Lib.hid hh.out
  clear hh
  have hh := Lib.hid (HX.out.below b1)
  clear HX
  have HX := Lib.hid hh.out
  clear hh
  have hh := Lib.hid (HL.out.below b1)
  clear HL
  have HL := Lib.hid hh.out
  clear hh
  have HI := Lib.hid (IntsNew.at hn13)
  clear HC hn13
  have b1 := (Below.refl w13.heap.size w13).alloc (Nat.le_refl _) (.cells #[.int .i64 3, .bool true, .slice p13 [(0 : Int), 5, 100].length c13] 38)
  have HQ := Lib.hid (PlanAt.new w13 3 true (.slice p13 [(0 : Int), 5, 100].length c13) 38)
  have c2 := Lib.hid (c1.out.trans (b1.mono c1.out.size))
  clear c1
  have c1 := Lib.hid c2.out
  clear c2
  have hh := Lib.hid (HD.out.below b1)
  clear HD
  have HD := Lib.hid hh.out
  clear hh
  have hh := Lib.hid (HX.out.below b1)
  clear HX
  have HX := Lib.hid hh.out
  clear hh
  have hh := Lib.hid (HL.out.below b1)
  clear HL
  have HL := Lib.hid hh.out
  clear hh
  have hh := Lib.hid (HI.out.below b1)
  clear HI
  have HI := Lib.hid hh.out
  clear hh
  clear b1
  have hnd : ∀ w, (binOp .neq 28 (opA 3 0 0 abkS ⟨#[]⟩) (opA 3 0 0 abkS ⟨#[]⟩)).run Tryz.prog w = .ok (.bool false) w := op_neq ⟨3, 0, 0, abkS, ⟨#[]⟩⟩ ⟨3, 0, 0, abkS, ⟨#[]⟩⟩ true (by decide)
  have hnx : ∀ w, (binOp .neq 28 (opA 7 0 0 ⟨#[]⟩ n8192) (opA 7 0 0 ⟨#[]⟩ n8192)).run Tryz.prog w = .ok (.bool false) w := op_neq ⟨7, 0, 0, ⟨#[]⟩, n8192⟩ ⟨7, 0, 0, ⟨#[]⟩, n8192⟩ true (by decide)
  go_upto_region 11 with fail
  generalize (w13.alloc (.cells #[.int .i64 3, .bool true, .slice p13 [(0 : Int), 5, 100].length c13] 38)) = w14 at *
  obtain ⟨DQ, hDQ⟩ : ∃ DQ, w13.heap.size = DQ := ⟨_, rfl⟩
  rw [hDQ] at HQ
  rw [hDQ]
  clear hDQ
  obtain ⟨⟨d0, d1, d2, d3, d4⟩, df⟩ := HD.out
  obtain ⟨⟨x0, x1, x2, x3, x4⟩, xf⟩ := HX.out
  clear df xf
  go_upto_region 13 with fail
  clear d0 d1 d2 d3 d4 x0 x1 x2 x3 x4 HD HX hnd hnx
  have b1 := (Below.refl w14.heap.size w14).alloc (Nat.le_refl _) (.cells #[.int .i64 4, .int .i64 0, .int .i64 0, .string ⟨#[]⟩, .string ⟨#[]⟩, .int .i64 5, .int .i64 0, .int .i64 0, .string ⟨#[]⟩, .string ⟨#[]⟩] 28)
  have HT2 : Hid (OpsAt (w14.alloc (.cells #[.int .i64 4, .int .i64 0, .int .i64 0, .string ⟨#[]⟩, .string ⟨#[]⟩, .int .i64 5, .int .i64 0, .int .i64 0, .string ⟨#[]⟩, .string ⟨#[]⟩] 28)) (.slice (some ⟨w14.heap.size, 0, none⟩) 2 2) [syncO, stepO]) := OpsAt.two w14 syncO stepO 28
  have c2 := Lib.hid (c1.out.trans (b1.mono c1.out.size))
  clear c1
  have c1 := Lib.hid c2.out
  clear c2
  have hh := Lib.hid (HL.out.below b1)
  clear HL
  have HL := Lib.hid hh.out
  clear hh
  have hh := Lib.hid (HI.out.below b1)
  clear HI
  have HI := Lib.hid hh.out
  clear hh
  have hh := Lib.hid (HQ.out.below b1)
  clear HQ
  have HQ := Lib.hid hh.out
  clear hh
  clear b1
  go_wp2_with fail
  generalize (w14.alloc (.cells #[.int .i64 4, .int .i64 0, .int .i64 0, .string ⟨#[]⟩, .string ⟨#[]⟩, .int .i64 5, .int .i64 0, .int .i64 0, .string ⟨#[]⟩, .string ⟨#[]⟩] 28)) = w15 at *
  refine (equalOps_any _ _ [syncO, stepO] [syncO, stepO] _ HL.out HT2.out (by decide)).mono ?_
  rw [decide_eq_true (rfl : ([syncO, stepO] : List OpD) = [syncO, stepO])]
  rintro e w16 ⟨rfl, b1⟩
  have c2 := Lib.hid (c1.out.trans (b1.mono c1.out.size))
  clear c1
  have c1 := Lib.hid c2.out
  clear c2
  have hh := Lib.hid (HI.out.below b1)
  clear HI
  have HI := Lib.hid hh.out
  clear hh
  have hh := Lib.hid (HQ.out.below b1)
  clear HQ
  have HQ := Lib.hid hh.out
  clear hh
  clear HL HT2 b1
  obtain ⟨⟨q0, q1, q2⟩, qf⟩ := HQ.out
  clear qf
  have b1 := (Below.refl w16.heap.size w16).alloc (Nat.le_refl _) (.cells #[.int .i64 0, .int .i64 5, .int .i64 100] 3)
  have HJ := Lib.hid (ints_three w16 0 5 100 3)
  have c2 := Lib.hid (c1.out.trans (b1.mono c1.out.size))
  clear c1
  have c1 := Lib.hid c2.out
  clear c2
  have hh := Lib.hid (HI.out.below b1)
  clear HI
  have HI := Lib.hid hh.out
  clear hh
  clear b1
  go_wp2_with fail
  generalize (w16.alloc (.cells #[.int .i64 0, .int .i64 5, .int .i64 100] 3)) = w17 at *
  refine (equal_any _ _ [0, 5, 100] [0, 5, 100] _ HI.out HJ.out (by decide) (by decide)).mono ?_
  rw [decide_eq_true (rfl : ([0, 5, 100] : List Int) = [0, 5, 100])]
  rintro e w18 ⟨rfl, b1⟩
  have c2 := Lib.hid (c1.out.trans (b1.mono c1.out.size))
  clear c1
  have c1 := Lib.hid c2.out
  clear c2
  clear b1
  go_wp2_with fail
  refine (word_any 5 _).mono ?_
  rw [show pack (wordL 5) = ⟨#[115, 116, 101, 112]⟩ from rfl]
  rintro e w19 ⟨rfl, b1⟩
  have c2 := Lib.hid (c1.out.trans (b1.mono c1.out.size))
  clear c1
  have c1 := Lib.hid c2.out
  clear c2
  clear b1
  go_wp2_with fail
  refine (update_any 3 _).mono ?_
  rw [show updB 3 = true from rfl]
  rintro e w20 ⟨rfl, rfl⟩
  go_wp2_with fail
  refine (update_any 4 _).mono ?_
  rw [show updB 4 = false from rfl]
  rintro e w21 ⟨rfl, rfl⟩
  go_wp2_with fail
  go_ret
  exact ⟨rfl, c1.out⟩
end Go.Proofs.YtlmbcclggaflaaaGreatDoor
namespace Go.Proofs.YtlmbcclggaflaaaGreatDoor
open Go Go.RowKit Go.ChangeShapes Go.WideShapes Go.ChangeAt

theorem own : ownKnob Tryz.prog.godebug = none := by kernel_rfl
theorem gPowType : (Tryz.prog.globals[1]?).map (·.type) = some 165 := by kernel_rfl
theorem cellsPow : Tryz.prog.cellsOf 165 = 20 := by kernel_rfl
theorem cellsU64 : Tryz.prog.cellsOf 122 = 1 := by kernel_rfl
def laidList : List (String × DataW Unit) := [("math/bits.deBruijn32tab", Rows.laid_math_bits_deBruijn32tab), ("math/bits.deBruijn64tab", Rows.laid_math_bits_deBruijn64tab), ("internal/strconv.uint64pow10", Rows.laid_internal_strconv_uint64pow10), ("unicode/utf8.acceptRanges", Rows.laid_unicode_utf8_acceptRanges), ("strconv.ErrRange", Rows.laid_strconv_ErrRange), ("strconv.ErrSyntax", Rows.laid_strconv_ErrSyntax), ("unicode/utf8.first", Rows.laid_unicode_utf8_first)]
theorem tab_of_vars {W : World} {name : String} {k : IntKind} {zs : List Int} {rest : List (String × DataW Unit)} {ps : List MemPlace} {g : Nat} {t e : TypeId} {n : Nat}
    (hg : Tryz.prog.globalNamed name = some g) (hty : (Tryz.prog.globals[g]?).map (·.type) = some t) (ht : Tryz.prog.underlying t = some (.array n e)) (he : Tryz.prog.underlying e = some (.int k)) (hce : Tryz.prog.cellsOf e = 1) (hct : Tryz.prog.cellsOf t = n)
    (h : DataW.LaidVars Tryz.prog W ((name, Lib.tabData k zs) :: rest) ps) : Lib.TabIs Tryz.prog W name k zs := by
  obtain ⟨g', t', cs, fuel, p, q, hg', ht', hvar, hd, _, _⟩ := h
  obtain rfl := Option.some.inj (hg.symm.trans hg')
  obtain rfl := Option.some.inj (hty.symm.trans ht')
  unfold Lib.TabIs
  rw [hvar, ← Lib.cells_of_tab ht he hce hct hd]
/-- What the list gives: the table of powers of ten reads as its initialiser lays it. -/
theorem tab_of_laid {W : World} (h : laidMetH Tryz.prog laidList W) : Tab W := by
  obtain ⟨ps, ⟨_, _, _, _, _, _, _, _, _, _, ⟨_, _, _, _, _, _, _, _, _, _, hv, _⟩, _⟩, _⟩ := (show laidMet Tryz.prog laidList W from h)
  exact tab_of_vars gPow gPowType Tryz.underlying165 Tryz.underlying122 cellsU64 cellsPow hv
/-- The length up to which the library searches without its hash is some number. -/
theorem maxLen_of {W : World} (h : W.ShapedOpen Tryz.prog) : ∃ m, W.cell? ⟨0, 0, none⟩ = some (.int .i64 m) :=
  cell_of_shapedOpen_int (zero := #[.int .i64 0]) (t := 3) h (by decide +kernel) (by kernel_rfl) rfl (by kernel_rfl) (by kernel_rfl) Tryz.underlying3

theorem starE : "*" ++ "errors.errorString" = "*errors.errorString" := by decide
theorem rowErr (u : TypeId) (h : Tryz.prog.typeName? 3 u = some "*errors.errorString") : u = 191 :=
  typeName_ptr_named (nm := "errors.errorString") (by rw [starE]; kernel_rfl) (by kernel_rfl) (by decide) u (by rw [starE]; exact h)
theorem gRan : Tryz.prog.globalNamed "strconv.ErrRange" = some 7 := by kernel_rfl
theorem gSyn : Tryz.prog.globalNamed "strconv.ErrSyntax" = some 6 := by kernel_rfl
theorem gRanType : (Tryz.prog.globals[7]?).map (·.type) = some 82 := by kernel_rfl
theorem gSynType : (Tryz.prog.globals[6]?).map (·.type) = some 82 := by kernel_rfl
theorem cellsErrS : Tryz.prog.cellsOf 193 = 1 := by kernel_rfl
theorem cellsStr : Tryz.prog.cellsOf 9 = 1 := by kernel_rfl
/-- What the list gives: the library's two errors are some errors. -/
theorem errs_of_laid {W : World} (h : laidMetH Tryz.prog laidList W) : Errs W := by
  have h0 : laidMet Tryz.prog laidList W := h
  have h4 := h0.tail.tail.tail.tail
  obtain ⟨a1, s1, hv1, _⟩ := laid_sentinel h4 gRan gRanType Tryz.underlying82 rowErr Tryz.underlying191 Tryz.underlying193 rfl rfl Tryz.underlying9 cellsErrS cellsStr
  obtain ⟨a2, s2, hv2, _⟩ := laid_sentinel h4.tail gSyn gSynType Tryz.underlying82 rowErr Tryz.underlying191 Tryz.underlying193 rfl rfl Tryz.underlying9 cellsErrS cellsStr
  exact ⟨⟨_, _, by simpa using World.var?_cell gRan hv1 0⟩, ⟨_, _, by simpa using World.var?_cell gSyn hv2 0⟩⟩

def cellsOfTab (k : IntKind) (d : DataW Unit) : Array Value := match d with
  | .agg l => (l.map fun x => match x with | .lit (.int _ n) => Value.int k n | _ => Value.int k 0).toArray
  | _ => #[]
def cellsOfPairs (k : IntKind) (d : DataW Unit) : Array Value := match d with
  | .agg l => (l.flatMap fun x => match x with | .agg m => m.map (fun y => match y with | .lit (.int _ n) => Value.int k n | _ => Value.int k 0) | _ => []).toArray
  | _ => #[]
abbrev ranS : ByteArray := ⟨#[118, 97, 108, 117, 101, 32, 111, 117, 116, 32, 111, 102, 32, 114, 97, 110, 103, 101]⟩
abbrev synS : ByteArray := ⟨#[105, 110, 118, 97, 108, 105, 100, 32, 115, 121, 110, 116, 97, 120]⟩
/-- So many blocks has the settled world. -/
noncomputable def low : Nat := (World.holding Tryz.prog default ⟨#[], #[], []⟩).heap.size
/-- A world for the witness: the settled one, the tables holding what their initialisers lay, two blocks more for the two sentinels. -/
noncomputable def laidWorld (os : Os) : World :=
  let w0 := World.holding Tryz.prog os ⟨#[.cells #[.string ranS] 193, .cells #[.string synS] 193], #[], []⟩
  { w0 with heap := ((((((w0.heap.modify 1 fun
      | .cells _ t frozen => .cells (cellsOfTab .u64 Rows.laid_internal_strconv_uint64pow10) t frozen
      | o => o).modify 4 fun
      | .cells _ t frozen => .cells (cellsOfTab .u8 Rows.laid_math_bits_deBruijn32tab) t frozen
      | o => o).modify 5 fun
      | .cells _ t frozen => .cells (cellsOfTab .u8 Rows.laid_math_bits_deBruijn64tab) t frozen
      | o => o).modify 3 fun
      | .cells _ t frozen => .cells (cellsOfPairs .u8 Rows.laid_unicode_utf8_acceptRanges) t frozen
      | o => o).modify 2 fun
      | .cells _ t frozen => .cells (cellsOfTab .u8 Rows.laid_unicode_utf8_first) t frozen
      | o => o).modify 7 fun
      | .cells _ t frozen => .cells #[.iface 191 (.pointer (some ⟨low, 0, none⟩))] t frozen
      | o => o).modify 6 fun
      | .cells _ t frozen => .cells #[.iface 191 (.pointer (some ⟨low + 1, 0, none⟩))] t frozen
      | o => o }
theorem laid_met (os : Os) (args : Array Value) : laidMet Tryz.prog laidList ((laidWorld os).forCall (fun _ _ => 0) ⟨#[], args, []⟩).memory :=
  laidMet_of_run' 8 (by kernel_rfl) (by kernel_rfl)
end Go.Proofs.YtlmbcclggaflaaaGreatDoor
