/-
  What Append leaves when it succeeds, with where the new slice lies; bytes.Clone; the walk of CodecRoundTrip.
  Conditions: the library's table lies in the world.
-/
import Derived.Test.YtmfdfpebbnagfaaDoorRound
import Derived.StillTailTactics
set_option linter.unusedVariables false
namespace Go.Proofs.YtmfdfpebbnagfaaDoor
open Go Go.RowKit

set_option maxHeartbeats 1000000 in
theorem append_own (v : Value) (l : List UInt8) (n k : Nat) (w : World) (hv : BytesAt w v l) (hl : l.length ≤ 35184372088832) (hn : n < 256 ^ 8) (h1 : isW (k : Int) = true) (hf : fitsV n (k : Int) = true) (hk8 : k ≤ 8) :
    Calls Tryd.prog 13 #[v, .int .u64 (n : Int), .int .i64 (k : Int)] w fun e w' => ∃ v1, e = .returned (.tuple #[v1, .int .i64 0]) ∧ w'.ownsRow w.heap.size 5 1 v1 (l ++ leL n k).length (Lib.byteCells (l ++ leL n k)) ∧ Below w.heap.size w w' := by
  obtain ⟨i0, hi, hz0, hz1, hz2⟩ := info_parts infoU8
  have HN := Lib.hid hn
  have H1 := Lib.hid h1; clear h1
  have HF := Lib.hid hf; clear hf hn
  go_enter Tryd.func13, Tryd.ntmps13
  go_wp2_with fail
  refine (widths_any w).mono ?_
  rintro e w1 ⟨rfl, rfl⟩
  go_wp2_with fail
  refine (contains_width w k).mono ?_
  rw [H1.out]
  rintro e w1 ⟨rfl, rfl⟩
  have c1 := below_widths w
  go_wp2_with fail
  refine (fits_any n k _ HN.out).mono ?_
  rw [HF.out]
  rintro e w1 ⟨rfl, b1⟩
  have c2 := c1.trans (b1.mono c1.size); clear c1 b1
  go_wp2_with fail
  refine (clone_any v l _ (hv.below c2) hl).mono ?_
  rintro e w2 ⟨v1, rfl, hown, b1⟩
  have HR : Hid (w2.ownsRow w.heap.size 5 1 v1 (l ++ leL n 0).length (Lib.byteCells (l ++ leL n 0))) := by
    show World.ownsRow _ _ _ _ _ _ _
    rw [leL_zero, List.append_nil]
    exact owns_mono hown c2.size
  have c3 := c2.trans (b1.mono c2.size); clear c2 b1 hown hv
  go_wp2_with fail
  go_loopw [8, 23] (fun vo vi wr => ∃ i : Nat, i ≤ k ∧ vi = .int .i64 i ∧ Hid (wr.ownsRow w.heap.size 5 1 vo (l ++ leL n i).length (Lib.byteCells (l ++ leL n i))) ∧ Below w.heap.size w wr) (fun _ vi _ => k - (intOf vi).toNat)
  case atStart => exact ⟨0, Nat.zero_le _, rfl, HR, c3⟩
  case round =>
    clear HR c3
    obtain ⟨i, hi', rfl, hr, hbr⟩ := hrel
    by_cases hlt : i < k
    · have HS := Lib.hid (snoc_leL l n i _ rfl)
      have HB := Lib.hid (byte_shift n i)
      have hln : (l ++ leL n i).length = l.length + i := by rw [List.length_append, leL_length]
      go_wp2_with (at_builtin; refine wpList_append_bytes _ rfl (.tmp 26) (.tmp 32) 22 rfl w.heap.size 5 i0 (.int .u8 0) Tryd.underlying22 hi hz0 hz1 hz2 rfl u8 _ _ rfl (hr.out.alloc _) _ [UInt8.ofNat (n / 256 ^ i % 256)] rfl (bytesAt_one wr _ _ HB.out _) (by rw [hln, List.length_singleton]; omega) (by have := hbr.size; simp; omega) ?_)
      intro v' w3 hown hgrow
      have c3 : Below w.heap.size w w3 := (hbr.alloc hbr.size _).grown hgrow (by have := hbr.size; simp; omega) (fun j hj => (hr.out.lt j hj).1)
      have HR : Hid (w3.ownsRow w.heap.size 5 1 v' (l ++ leL n (i + 1)).length (Lib.byteCells (l ++ leL n (i + 1)))) := by
        show World.ownsRow _ _ _ _ _ _ _
        rw [← HS.out]
        rw [List.length_append, Lib.byteCells_append, List.length_singleton, hln]
        exact hown
      clear hown hgrow
      go_wp2_with fail
      go_roundw
      case rel => exact ⟨i + 1, by omega, by go_num, HR, c3⟩
      case measure => simp [intOf]; omega
    · obtain rfl : i = k := by omega
      go_wp2_with fail
      go_ret2
      exact ⟨_, rfl, hr.out, hbr⟩

theorem bclone_any (v : Value) (l : List UInt8) (w : World) (hv : BytesAt w v l) (hl : l.length ≤ 35184372088832) :
    Calls Tryd.prog 30 #[v] w fun e w' => ∃ v1, e = .returned v1 ∧ BytesAt w' v1 l ∧ Below w.heap.size w w' := by
  obtain ⟨p, c, rfl, hc, hp⟩ := hv
  cases p with
  | none =>
    have h0 : l.length = 0 := by
      rcases Nat.eq_zero_or_pos l.length with h | h
      · exact h
      · obtain ⟨b, o, hbo, _⟩ := hp h
        cases hbo
    obtain rfl := List.eq_nil_of_length_eq_zero h0
    refine (Tryd.bytes_Clone_nil 0 c w).mono ?_
    rintro e w' ⟨rfl, rfl⟩
    exact ⟨_, rfl, BytesAt.nil _ _ _, Below.refl _ _⟩
  | some a =>
    refine (Tryd.bytes_Clone_at a l.length c (l.map fun x => (x.toNat : Int)) w (by simp) (by omega) (fun i hi => ?_)).mono ?_
    · obtain ⟨b, o, hbo, hcell⟩ := hp (by omega)
      obtain rfl := Option.some.inj hbo
      have ha : (⟨b, o, none⟩ : Addr).add i = ⟨b, o + i, none⟩ := by unfold Addr.add; split <;> simp_all
      rw [ha, hcell i hi, List.getD, List.getD, List.getElem?_map, List.getElem?_eq_getElem hi]
      rfl
    · rintro e w' ⟨v', rfl, hown, _, hb⟩
      refine ⟨v', rfl, BytesAt.of_owns (B := w.heap.size) (e := 5) ?_, hb⟩
      have e : (l.map fun x => (x.toNat : Int)).map (Value.int .u8) = Lib.byteCells l := by simp [Lib.byteCells]
      rw [← e]
      exact hown

theorem below_drewN (w : World) (k : Nat) : Below w.heap.size w (w.drewN k) := ⟨rfl, rfl, rfl, Nat.le_refl _, fun _ _ => rfl⟩
theorem below_grow {w w' : World} (h : Below w.heap.size w w') (row : Option Nat) : w.grownBy w' row := ⟨h.os, h.tape, h.output, h.size, fun k hk _ => h.block k hk⟩
theorem own_below {w w' : World} {B e : Nat} {v : Value} {n : Nat} {xs : List Value} (h : w.ownsRow B e 1 v n xs) (hb : Below w.heap.size w w') : w'.ownsRow B e 1 v n xs :=
  h.kept (below_grow hb none) (by cases v.ownBlock <;> simp)
/-- What holds of the loop that encodes: the bytes so far, the offsets, the widths; the three lie apart. -/
def RT (l2 : List UInt8) (z2 : List Nat) (m B : Nat) (w : World) (vo vf vu : Value) (ws : List Nat) : Prop :=
  BytesAt w vo (l2 ++ encL z2 ws) ∧ w.ownsRow B 3 1 vf ws.length (intCells (offL m ws)) ∧ w.ownsRow B 3 1 vu ws.length (intCells ws) ∧
  (0 < (l2 ++ encL z2 ws).length → vo.ownBlock ≠ vf.ownBlock ∧ vo.ownBlock ≠ vu.ownBlock) ∧ (vu.ownBlock = none ∨ vu.ownBlock ≠ vf.ownBlock) ∧ FitL z2 ws
theorem RT.below {l2 : List UInt8} {z2 : List Nat} {m B : Nat} {w w' : World} {vo vf vu : Value} {ws : List Nat} (h : RT l2 z2 m B w vo vf vu ws) (hb : Below w.heap.size w w') : RT l2 z2 m B w' vo vf vu ws :=
  ⟨h.1.below hb, own_below h.2.1 hb, own_below h.2.2.1 hb, h.2.2.2.1, h.2.2.2.2.1, h.2.2.2.2.2⟩
theorem RT.used {l2 : List UInt8} {z2 : List Nat} {m B : Nat} {w w6 : World} {o : Obj} {vo vf vu : Value} {ws : List Nat} (h : RT l2 z2 m B w vo vf vu ws) (g : (w.alloc o).grownBy w6 vf.ownBlock) : w6.ownsRow B 3 1 vu ws.length (intCells ws) :=
  (h.2.2.1.alloc o).kept g h.2.2.2.2.1
theorem RT.step {l2 : List UInt8} {z2 : List Nat} {m B x : Nat} {wr w5 w6 w7 : World} {o1 o2 : Obj} {vo vf vu vn vf' vu' : Value} {ws : List Nat} (h : RT l2 z2 m B wr vo vf vu ws) (b1 : Below wr.heap.size wr w5)
    (hx1 : isW (x : Int) = true) (hx2 : fitsV (z2.getD ws.length 0) (x : Int) = true) (hlt : ws.length < z2.length) (hB : B ≤ wr.heap.size)
    (h5 : w5.ownsRow wr.heap.size 5 1 vn ((l2 ++ encL z2 ws) ++ leL (z2.getD ws.length 0) x).length (Lib.byteCells ((l2 ++ encL z2 ws) ++ leL (z2.getD ws.length 0) x)))
    (y1 y2 : Int) (hy1 : y1 = ((m + sumL ws : Nat) : Int)) (hy2 : y2 = (x : Int))
    (hf : w6.ownsRow B 3 1 vf' (ws.length + 1) (intCells (offL m ws) ++ [.int .i64 y1])) (g1 : (w5.alloc o1).grownBy w6 vf.ownBlock) (a1 : vf'.ownBlock = vf.ownBlock ∨ vf'.ownBlock = some (w5.heap.size + 1))
    (hu : w7.ownsRow B 3 1 vu' (ws.length + 1) (intCells ws ++ [.int .i64 y2])) (g2 : (w6.alloc o2).grownBy w7 vu.ownBlock) (a2 : vu'.ownBlock = vu.ownBlock ∨ vu'.ownBlock = some (w6.heap.size + 1)) :
    RT l2 z2 m B w7 vn vf' vu' (ws ++ [x]) ∧ Below B w5 w7 := by
  subst hy1 hy2
  have s1 : (w5.alloc o1).heap.size = w5.heap.size + 1 := by simp
  have s2 : (w6.alloc o2).heap.size = w6.heap.size + 1 := by simp
  have s3 : w5.heap.size + 1 ≤ w6.heap.size := by have := g1.size; omega
  have hfl := h.2.1.lt
  have hul := h.2.2.1.lt
  have hnl := h5.lt
  have hb5 : Below wr.heap.size wr w5 := b1
  have hsz := b1.size
  have hz5 : Below w5.heap.size w5 (w5.alloc o1) := (Below.refl _ _).alloc (Nat.le_refl _) _
  have hz6 : Below w6.heap.size w6 (w6.alloc o2) := (Below.refl _ _).alloc (Nat.le_refl _) _
  have nf : vn.ownBlock ≠ none → vn.ownBlock ≠ vf.ownBlock := by
    intro h0 he
    cases hv : vn.ownBlock with
    | none => exact h0 hv
    | some g => have e1 := hnl g hv; rw [hv] at he; have e2 := hfl g he.symm; omega
  have nu : vn.ownBlock ≠ none → vn.ownBlock ≠ vu.ownBlock := by
    intro h0 he
    cases hv : vn.ownBlock with
    | none => exact h0 hv
    | some g => have e1 := hnl g hv; rw [hv] at he; have e2 := hul g he.symm; omega
  have hby := BytesAt.of_owns h5
  have hnn : 0 < ((l2 ++ encL z2 ws) ++ leL (z2.getD ws.length 0) x).length → vn.ownBlock ≠ none := by
    intro h0
    obtain ⟨p, c, rfl, _, hp⟩ := hby
    obtain ⟨b, o, rfl, _⟩ := hp h0
    intro he; cases he
  have e1 := encL_snoc z2 ws x hlt
  refine ⟨⟨?_, ?_, ?_, ?_, ?_, fitL_snoc h.2.2.2.2.2 hx1 hx2⟩, ?_⟩
  · rw [e1, ← List.append_assoc]
    exact (((hby.below hz5).far g1 fun h0 => nf (hnn h0)).below hz6).far g2 fun h0 => nu (hnn h0)
  · rw [List.length_append, List.length_singleton, offL_snoc, ← intCells_snoc]
    refine (own_below hf hz6).kept g2 ?_
    cases hv : vf'.ownBlock with
    | none => exact Or.inl rfl
    | some g =>
      refine Or.inr ?_
      rcases a1 with a1 | a1
      · rw [hv] at a1
        rcases h.2.2.2.2.1 with hn | hn
        · rw [hn]; intro hc; cases hc
        · rw [a1]; exact fun hc => hn hc.symm
      · rw [hv] at a1
        obtain rfl := Option.some.inj a1
        intro hc
        have := hul _ hc.symm
        omega
  · rw [List.length_append, List.length_singleton, ← intCells_snoc]
    exact hu
  · rw [e1, ← List.append_assoc]
    intro h0
    have h1 := hnn h0
    constructor
    · rcases a1 with a1 | a1
      · rw [a1]; exact nf h1
      · rw [a1]; intro hc; have := hnl _ hc; omega
    · rcases a2 with a2 | a2
      · rw [a2]; exact nu h1
      · rw [a2]; intro hc; have := hnl _ hc; omega
  · cases hv : vu'.ownBlock with
    | none => exact Or.inl rfl
    | some g =>
      refine Or.inr ?_
      intro hc
      rcases a2 with a2 | a2
      · rw [hv] at a2
        have hlu := hul g a2.symm
        rcases a1 with a1 | a1
        · rcases h.2.2.2.2.1 with hn | hn
          · rw [hn] at a2; cases a2
          · rw [← a2, hc, a1] at hn; exact hn rfl
        · rw [a1] at hc
          obtain rfl := Option.some.inj hc
          omega
      · rw [hv] at a2
        obtain rfl := Option.some.inj a2
        have := hf.lt _ hc.symm
        omega
  · refine (((hz5.mono (by omega)).grown g1 (by omega) fun k hk => (hfl k hk).1).trans (hz6.mono (by omega))).grown g2 (by omega) fun k hk => (hul k hk).1

theorem infoInt : (Tryd.prog.info? 3).map (fun i => (i.zero, i.size, i.bytes)) = some (some (.int .i64 0), 1, 8) := by kernel_rfl

end Go.Proofs.YtmfdfpebbnagfaaDoor
