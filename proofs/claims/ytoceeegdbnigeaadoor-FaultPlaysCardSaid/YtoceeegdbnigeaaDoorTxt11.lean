/-
  Plans: what Text computes, of the program and of the reference.
  Conditions: the library's table lies in the world.
-/
import Derived.Test.YtoceeegdbnigeaaDoorPl11
import Derived.Test.YtoceeegdbnigeaaDoorJoin
import Derived.Test.YtoceeegdbnigeaaDoorFlt2
set_option linter.unusedVariables false
namespace Go.Proofs.YtoceeegdbnigeaaDoor
open Go Go.RowKit

def dB (k : Int) : ByteArray := pack (dS k)
def keepW (L : List Int) : List ByteArray := L.map dB
theorem keepW_snoc (L : List Int) (i : Nat) (h : i < L.length) : keepW (L.take (i + 1)) = keepW (L.take i) ++ [dB (L.getD i 0)] := by
  unfold keepW
  rw [List.take_add_one, List.map_append, List.getD, List.getElem?_eq_getElem h]
  rfl
theorem keepW_len (L : List Int) (i : Nat) (h : i ≤ L.length) : (keepW (L.take i)).length = i := by
  unfold keepW
  rw [List.length_map, List.length_take]
  omega
theorem keepW_data (L : List Int) : (keepW L).map (·.data.toList) = L.map dS := by
  unfold keepW
  rw [List.map_map]
  refine List.map_congr_left fun k _ => ?_
  exact pack_data _
theorem dS_len (k : Int) (h : k ≤ 1000000) : (dS k).length ≤ 7 :=
  dec_len 6 k.toNat (by have : (10 : Nat) ^ 7 = 10000000 := by decide
                        omega)
theorem dB_size (k : Int) (h : k ≤ 1000000) : (dB k).size ≤ 7 := by unfold dB; rw [pack_size]; exact dS_len k h
theorem keepT_len (L : List Int) (n : Nat) (h : ∀ k ∈ L, k ≤ 1000000) (hn : L.length ≤ n) : (keepT L).length ≤ 8 * n := by
  refine join_le _ _ 7 n (fun x hx => ?_) (by rw [List.length_map]; exact hn)
  rw [List.mem_map] at hx
  obtain ⟨k, hk, rfl⟩ := hx
  exact dS_len k (h k hk)
theorem itoa_dB (k : Int) (h : 0 ≤ k) : (⟨(Lib.itoa k).toArray⟩ : ByteArray) = dB k := by
  obtain ⟨n, rfl⟩ : ∃ n : Nat, k = (n : Int) := ⟨k.toNat, by omega⟩
  rw [Lib.itoa_nonneg]
  rfl
theorem itoa_is (k : Int) (h0 : 0 ≤ k) (h1 : k ≤ 1000000) (D : ByteArray) (hD : dB k = D) (w : World) (ht : Tab w) :
    Calls Tryd.prog 31 #[.int .i64 k] w fun e w' => e = .returned (.string D) ∧ Below w.heap.size w w' := by
  have h := itoa_any k (by omega) (by omega) w ht
  rw [itoa_dB k h0, hD] at h
  exact h
theorem rdig_is (k : Int) (h0 : 0 ≤ k) (h1 : k ≤ 1000000) (D : ByteArray) (hD : dB k = D) (w : World) :
    Calls Tryd.prog 41 #[.int .i64 k] w fun e w' => e = .returned (.string D) ∧ Below w.heap.size w w' := by
  obtain ⟨n, rfl⟩ : ∃ n : Nat, k = (n : Int) := ⟨k.toNat, by omega⟩
  have h := rdig_any (n + 1) n w (Nat.lt_succ_self n) (by show n ≤ 1000000000; omega)
  rw [← hD]
  exact h
abbrev doneB (d : Bool) : ByteArray := if d = true then ⟨#[121]⟩ else ⟨#[110]⟩
theorem text_cat (A : Int) (d : Bool) (L : List Int) (r : ByteArray) (hr : r.data.toList = textB A d L) : (((dB A ++ ⟨#[32]⟩) ++ doneB d) ++ ⟨#[32]⟩) ++ pack (keepT L) = r := by
  apply ByteArray.ext
  apply Array.ext'
  rw [hr, textB_eq]
  cases d <;> simp [dB, pack, doneB]
set_option maxRecDepth 100000 in
set_option maxHeartbeats 4000000 in
theorem fText_good (A : Int) (d : Bool) (v : Value) (L : List Int) (w : World) (hv : IntsAt w v L) (ht : Tab w) (r : ByteArray) (hp : planOK A L = true) (hr : r.data.toList = textB A d L) :
    Calls Tryd.prog 15 #[planV A d v] w fun x w' => x = .returned (.tuple #[.string r, .int .i64 0]) ∧ Below w.heap.size w w' := by
  obtain ⟨h0, h1, h2, h3, h4⟩ := planOK_parts hp
  have HE : Hid (planE A L = 0) := by show _ = _; unfold planE; rw [if_pos hp]
  have HT := Lib.hid ht
  have HF := Lib.hid h4
  have HA0 := Lib.hid h0
  have HA1 := Lib.hid h1
  have HR := Lib.hid hr
  have HL := Lib.hid h3
  have HL1 := Lib.hid h2
  have c1 : Below w.heap.size w (w.alloc (.cells #[.int .i64 A, .bool d, v] 24)) := (Below.refl _ _).alloc (Nat.le_refl _) _
  obtain ⟨k0, k1, k2⟩ := planAt_new w A d v 24
  have HV := Lib.hid (hv.below c1)
  obtain ⟨p, c, rfl, hc, _⟩ := hv
  obtain ⟨i0, hi0, hz0, hz1, hz2⟩ := info_parts infoStr
  clear h0 h1 h2 h3 h4 hr hp ht
  go_enter Tryd.func15, Tryd.ntmps15
  go_wp2_with fail
  refine (fcheck_any A d _ L _ HV.out (by have := HL.out; omega)).mono ?_
  rw [HE.out]
  rintro e w1 ⟨rfl, b1⟩
  have K0 := Lib.hid (cell_kept k0 b1)
  have k1 := cell_kept k1 b1
  have k2 := cell_kept k2 b1
  have HV1 := Lib.hid (HV.out.below b1)
  have c2 := c1.trans (b1.mono c1.size)
  clear b1 c1 k0 HV
  obtain ⟨p', c', he, _, hcell⟩ := HV1.out
  injection he with e1 _ e2
  subst e1 e2
  have HC := Lib.hid hcell
  clear hcell HV1
  have h00 : Hid (w1.ownsRow w1.heap.size 9 1 (.slice none 0 0) 0 (strCellsL (keepW (L.take 0)))) := World.ownsRow_nil _ _ _ _
  cases d
  · go_wp2_with fail
    go_loopw [6, 19] (fun vo vi wr => ∃ (i : Nat) (u : Value), i ≤ L.length ∧ vi = .int .i64 i ∧ u = vo ∧ Hid (wr.ownsRow w1.heap.size 9 1 u i (strCellsL (keepW (L.take i)))) ∧ Below w1.heap.size w1 wr) (fun _ vi _ => L.length - (intOf vi).toNat)
    case atStart => exact ⟨0, _, Nat.zero_le _, rfl, rfl, h00, Below.refl _ _⟩
    case round =>
      clear h00
      obtain ⟨i, vo, hi, rfl, rfl, hr, c3⟩ := hrel
      by_cases hlt : i < L.length
      · obtain ⟨b, o, rfl, hci⟩ := HC.out (by omega)
        have hcx := cell_kept (hci i hlt) c3
        have hsn := keepW_snoc L i hlt
        have hmem : L.getD i 0 ∈ L := by rw [List.getD, List.getElem?_eq_getElem hlt]; exact List.getElem_mem hlt
        have hfb := HF.out _ hmem
        obtain ⟨k, hk⟩ : ∃ k, L.getD i 0 = k := ⟨_, rfl⟩
        rw [hk] at hcx hsn hfb
        obtain ⟨D, hD⟩ : ∃ D, dB k = D := ⟨_, rfl⟩
        rw [hD] at hsn
        have HD := Lib.hid hD
        have HSn := Lib.hid hsn
        have HFB := Lib.hid hfb
        clear hci hsn hmem hk hD hfb
        have hl34 := HL.out
        go_wp2_with fail
        refine (itoa_is k HFB.out.1 (by have := HFB.out.2; omega) D HD.out _ (HT.out.below (c2.trans (c3.mono c2.size)))).mono ?_
        rintro e w3 ⟨rfl, b1⟩
        have hr3 := Lib.hid (own_below hr.out b1)
        have c4 := c3.trans (b1.mono c3.size)
        clear hr b1 c3 hcx
        go_wp2_with (at_builtin; refine wpList_append_own _ rfl (.tmp 23) (.tmp 26) 49 rfl w1.heap.size 9 i0 (.string ⟨#[]⟩) 1 16 Tryd.underlying49 hi0 hz0 hz1 hz2 rfl (by decide) _ _ _ rfl (hr3.out.alloc _) ⟨w3.heap.size, 0, none⟩ 1 1 [.string D] rfl rfl (cell_one_new _ _ _) (fun q hq => by simp at hq; subst hq; rfl) (by unfold maxLen; omega) (by omega) (by have := c4.size; simp; omega) ?_)
        intro v' w4 hown hgrow _
        have HR2 : Hid (w4.ownsRow w1.heap.size 9 1 v' (i + 1) (strCellsL (keepW (L.take (i + 1))))) := by
          show World.ownsRow _ _ _ _ _ _ _
          rw [HSn.out, ← strCellsL_snoc]
          exact hown
        have c5 : Below w1.heap.size w1 w4 := (c4.alloc c4.size _).grown hgrow (by have := c4.size; simp; omega) (fun k hk => (hr3.out.lt k hk).1)
        clear hown hgrow hr3 c4
        go_wp2_with fail
        go_roundw
        case rel => exact ⟨i + 1, _, by omega, by go_num, rfl, HR2, c5⟩
        case measure => simp [intOf]; omega
      · obtain rfl : i = L.length := by omega
        clear hlt hi
        rw [List.take_length] at hr
        have k0 := cell_kept K0.out c3
        have cw := c2.trans (c3.mono c2.size)
        obtain ⟨D, hD⟩ : ∃ D, dB A = D := ⟨_, rfl⟩
        have HD := Lib.hid hD
        have hsD : D.size ≤ 7 := by rw [← hD]; exact dB_size A HA1.out
        obtain ⟨J, hJ⟩ : ∃ J, pack (keepT L) = J := ⟨_, rfl⟩
        have hsJ : J.size ≤ 8 * 34 := by rw [← hJ, pack_size]; exact keepT_len L 34 (fun k hk => by have := HF.out k hk; omega) HL.out
        have HJ : Hid (Lib.join ((keepW L).map (·.data.toList)) (⟨#[44]⟩ : ByteArray).data.toList = J.data.toList) := by show _ = _; rw [keepW_data, ← hJ, pack_data]; rfl
        have HX : Hid ((((D ++ ⟨#[32]⟩) ++ doneB false) ++ ⟨#[32]⟩) ++ J = r) := by show _ = _; rw [← hD, ← hJ]; exact text_cat A false L r HR.out
        have hn0 := HL1.out
        obtain ⟨n, hn⟩ : ∃ n, L.length = n := ⟨_, rfl⟩
        have HLn := Lib.hid hn
        have hl34 := HL.out
        rw [hn] at hr hl34 hn0
        obtain ⟨g, cp, hvo⟩ : ∃ g cp, vo = .slice (some ⟨g, 0, none⟩) n cp := by
          rcases hr.out.2 with ⟨he, h0⟩ | ⟨g, cap, cur, he, _⟩
          · omega
          · exact ⟨g, cap, he⟩
        subst hvo
        clear hD hJ hn
        go_wp2_with fail
        refine (itoa_is A HA0.out HA1.out D HD.out _ (HT.out.below cw)).mono ?_
        rintro e w3 ⟨rfl, b1⟩
        have hr3 := Lib.hid (own_below hr.out b1)
        have c4 := cw.trans (b1.mono cw.size)
        clear hr b1 c3 cw k0
        go_wp2_with fail
        refine (join_is (keepW L) n (by unfold keepW; rw [List.length_map]; exact HLn.out) J ⟨#[44]⟩ HJ.out (by omega) (by omega) w1.heap.size g cp _ hr3.out (by omega)).mono ?_
        rintro e w4 ⟨rfl, b1⟩
        have c5 := c4.trans (b1.mono c4.size)
        clear b1 c4 hr3
        go_wp2_with fail
        go_ret2
        exact ⟨by rw [← HX.out]; rfl, c5⟩
  · go_wp2_with fail
    go_loopw [6, 19] (fun vo vi wr => ∃ (i : Nat) (u : Value), i ≤ L.length ∧ vi = .int .i64 i ∧ u = vo ∧ Hid (wr.ownsRow w1.heap.size 9 1 u i (strCellsL (keepW (L.take i)))) ∧ Below w1.heap.size w1 wr) (fun _ vi _ => L.length - (intOf vi).toNat)
    case atStart => exact ⟨0, _, Nat.zero_le _, rfl, rfl, h00, Below.refl _ _⟩
    case round =>
      clear h00
      obtain ⟨i, vo, hi, rfl, rfl, hr, c3⟩ := hrel
      by_cases hlt : i < L.length
      · obtain ⟨b, o, rfl, hci⟩ := HC.out (by omega)
        have hcx := cell_kept (hci i hlt) c3
        have hsn := keepW_snoc L i hlt
        have hmem : L.getD i 0 ∈ L := by rw [List.getD, List.getElem?_eq_getElem hlt]; exact List.getElem_mem hlt
        have hfb := HF.out _ hmem
        obtain ⟨k, hk⟩ : ∃ k, L.getD i 0 = k := ⟨_, rfl⟩
        rw [hk] at hcx hsn hfb
        obtain ⟨D, hD⟩ : ∃ D, dB k = D := ⟨_, rfl⟩
        rw [hD] at hsn
        have HD := Lib.hid hD
        have HSn := Lib.hid hsn
        have HFB := Lib.hid hfb
        clear hci hsn hmem hk hD hfb
        have hl34 := HL.out
        go_wp2_with fail
        refine (itoa_is k HFB.out.1 (by have := HFB.out.2; omega) D HD.out _ (HT.out.below (c2.trans (c3.mono c2.size)))).mono ?_
        rintro e w3 ⟨rfl, b1⟩
        have hr3 := Lib.hid (own_below hr.out b1)
        have c4 := c3.trans (b1.mono c3.size)
        clear hr b1 c3 hcx
        go_wp2_with (at_builtin; refine wpList_append_own _ rfl (.tmp 23) (.tmp 26) 49 rfl w1.heap.size 9 i0 (.string ⟨#[]⟩) 1 16 Tryd.underlying49 hi0 hz0 hz1 hz2 rfl (by decide) _ _ _ rfl (hr3.out.alloc _) ⟨w3.heap.size, 0, none⟩ 1 1 [.string D] rfl rfl (cell_one_new _ _ _) (fun q hq => by simp at hq; subst hq; rfl) (by unfold maxLen; omega) (by omega) (by have := c4.size; simp; omega) ?_)
        intro v' w4 hown hgrow _
        have HR2 : Hid (w4.ownsRow w1.heap.size 9 1 v' (i + 1) (strCellsL (keepW (L.take (i + 1))))) := by
          show World.ownsRow _ _ _ _ _ _ _
          rw [HSn.out, ← strCellsL_snoc]
          exact hown
        have c5 : Below w1.heap.size w1 w4 := (c4.alloc c4.size _).grown hgrow (by have := c4.size; simp; omega) (fun k hk => (hr3.out.lt k hk).1)
        clear hown hgrow hr3 c4
        go_wp2_with fail
        go_roundw
        case rel => exact ⟨i + 1, _, by omega, by go_num, rfl, HR2, c5⟩
        case measure => simp [intOf]; omega
      · obtain rfl : i = L.length := by omega
        clear hlt hi
        rw [List.take_length] at hr
        have k0 := cell_kept K0.out c3
        have cw := c2.trans (c3.mono c2.size)
        obtain ⟨D, hD⟩ : ∃ D, dB A = D := ⟨_, rfl⟩
        have HD := Lib.hid hD
        have hsD : D.size ≤ 7 := by rw [← hD]; exact dB_size A HA1.out
        obtain ⟨J, hJ⟩ : ∃ J, pack (keepT L) = J := ⟨_, rfl⟩
        have hsJ : J.size ≤ 8 * 34 := by rw [← hJ, pack_size]; exact keepT_len L 34 (fun k hk => by have := HF.out k hk; omega) HL.out
        have HJ : Hid (Lib.join ((keepW L).map (·.data.toList)) (⟨#[44]⟩ : ByteArray).data.toList = J.data.toList) := by show _ = _; rw [keepW_data, ← hJ, pack_data]; rfl
        have HX : Hid ((((D ++ ⟨#[32]⟩) ++ doneB true) ++ ⟨#[32]⟩) ++ J = r) := by show _ = _; rw [← hD, ← hJ]; exact text_cat A true L r HR.out
        have hn0 := HL1.out
        obtain ⟨n, hn⟩ : ∃ n, L.length = n := ⟨_, rfl⟩
        have HLn := Lib.hid hn
        have hl34 := HL.out
        rw [hn] at hr hl34 hn0
        obtain ⟨g, cp, hvo⟩ : ∃ g cp, vo = .slice (some ⟨g, 0, none⟩) n cp := by
          rcases hr.out.2 with ⟨he, h0⟩ | ⟨g, cap, cur, he, _⟩
          · omega
          · exact ⟨g, cap, he⟩
        subst hvo
        clear hD hJ hn
        go_wp2_with fail
        refine (itoa_is A HA0.out HA1.out D HD.out _ (HT.out.below cw)).mono ?_
        rintro e w3 ⟨rfl, b1⟩
        have hr3 := Lib.hid (own_below hr.out b1)
        have c4 := cw.trans (b1.mono cw.size)
        clear hr b1 c3 cw k0
        go_wp2_with fail
        refine (join_is (keepW L) n (by unfold keepW; rw [List.length_map]; exact HLn.out) J ⟨#[44]⟩ HJ.out (by omega) (by omega) w1.heap.size g cp _ hr3.out (by omega)).mono ?_
        rintro e w4 ⟨rfl, b1⟩
        have c5 := c4.trans (b1.mono c4.size)
        clear b1 c4 hr3
        go_wp2_with fail
        go_ret2
        exact ⟨by rw [← HX.out]; rfl, c5⟩
set_option maxHeartbeats 1000000 in
theorem fText_bad (A : Int) (d : Bool) (v : Value) (L : List Int) (w : World) (hv : IntsAt w v L) (hl : L.length ≤ 1099511627776) (hp : planOK A L = false) :
    Calls Tryd.prog 15 #[planV A d v] w fun x w' => x = .returned (.tuple #[.string ⟨#[]⟩, .int .i64 2]) ∧ Below w.heap.size w w' := by
  have HE : Hid (planE A L = 2) := by show _ = _; unfold planE; rw [if_neg (by rw [hp]; decide)]
  have c1 : Below w.heap.size w (w.alloc (.cells #[.int .i64 A, .bool d, v] 24)) := (Below.refl _ _).alloc (Nat.le_refl _) _
  obtain ⟨k0, k1, k2⟩ := planAt_new w A d v 24
  have HV := Lib.hid (hv.below c1)
  have HLn := Lib.hid hl
  clear hl hp hv
  go_enter Tryd.func15, Tryd.ntmps15
  go_wp2_with fail
  refine (fcheck_any A d _ L _ HV.out HLn.out).mono ?_
  rw [HE.out]
  rintro e w1 ⟨rfl, b1⟩
  have c2 := c1.trans (b1.mono c1.size)
  go_wp2_with fail
  go_ret2
  exact ⟨rfl, c2⟩
set_option maxHeartbeats 1000000 in
theorem rText_bad (A : Int) (d : Bool) (v : Value) (L : List Int) (w : World) (hv : IntsAt w v L) (hl : L.length ≤ 1099511627776) (hp : planOK A L = false) :
    Calls Tryd.prog 16 #[planV A d v] w fun x w' => x = .returned (.tuple #[.string ⟨#[]⟩, .int .i64 2]) ∧ Below w.heap.size w w' := by
  have HE : Hid (planE A L = 2) := by show _ = _; unfold planE; rw [if_neg (by rw [hp]; decide)]
  have c1 : Below w.heap.size w (w.alloc (.cells #[.int .i64 A, .bool d, v] 24)) := (Below.refl _ _).alloc (Nat.le_refl _) _
  obtain ⟨k0, k1, k2⟩ := planAt_new w A d v 24
  have HV := Lib.hid (hv.below c1)
  have HLn := Lib.hid hl
  clear hl hp hv
  go_enter Tryd.func16, Tryd.ntmps16
  go_wp2_with fail
  refine (rcheck_any A d _ L _ HV.out HLn.out).mono ?_
  rw [HE.out]
  rintro e w1 ⟨rfl, b1⟩
  have c2 := c1.trans (b1.mono c1.size)
  go_wp2_with fail
  go_ret2
  exact ⟨rfl, c2⟩
/-- What the reference has written ahead of a number. -/
def rT (A : Int) (d : Bool) (L : List Int) (i : Nat) : ByteArray := pack (dS A ++ 32 :: (if d = true then 121 else 110) :: 32 :: keepT (L.take i))
theorem rT_zero (A : Int) (d : Bool) (L : List Int) (D : ByteArray) (hD : dB A = D) : rT A d L 0 = D ++ (if d = true then ⟨#[32, 121, 32]⟩ else ⟨#[32, 110, 32]⟩) := by
  subst hD
  apply ByteArray.ext
  apply Array.ext'
  cases d <;> simp [rT, dB, pack, keepT, Lib.join]
theorem join_snoc : ∀ (l : List (List UInt8)) (x : List UInt8) (d : UInt8), l ≠ [] → Lib.join (l ++ [x]) [d] = Lib.join l [d] ++ d :: x
  | [], _, _, h => absurd rfl h
  | [a], x, d, _ => by rw [List.singleton_append, joinc_two, Lib.join_one, Lib.join_one]
  | a :: b :: t, x, d, _ => by
    have ih := join_snoc (b :: t) x d (by simp)
    rw [List.cons_append] at ih
    rw [List.cons_append, List.cons_append, joinc_two, joinc_two, ih]
    simp
theorem rT_one (A : Int) (d : Bool) (L : List Int) (h : 0 < L.length) : rT A d L 1 = rT A d L 0 ++ dB (L.getD 0 0) := by
  apply ByteArray.ext
  apply Array.ext'
  cases L with
  | nil => simp at h
  | cons a t => simp [rT, dB, pack, keepT, Lib.join]
theorem rT_succ (A : Int) (d : Bool) (L : List Int) (i : Nat) (h : i < L.length) (hi : 0 < i) : rT A d L (i + 1) = (rT A d L i ++ ⟨#[44]⟩) ++ dB (L.getD i 0) := by
  have e : keepT (L.take (i + 1)) = keepT (L.take i) ++ 44 :: dS (L.getD i 0) := by
    unfold keepT
    rw [List.take_add_one, List.getD, List.getElem?_eq_getElem h]
    simp only [Option.toList_some, List.map_append, List.map_cons, List.map_nil, Option.getD_some]
    refine join_snoc _ _ _ fun h0 => ?_
    rw [List.map_eq_nil_iff] at h0
    have := congrArg List.length h0
    rw [List.length_take, List.length_nil] at this
    omega
  apply ByteArray.ext
  apply Array.ext'
  simp [rT, dB, pack, e]
theorem rT_size (A : Int) (d : Bool) (L : List Int) (i : Nat) (hA : A ≤ 1000000) (h : ∀ k ∈ L, k ≤ 1000000) (hi : i ≤ 34) : (rT A d L i).size ≤ 300 := by
  unfold rT
  rw [pack_size, List.length_append]
  have h1 := dS_len A hA
  have h2 := keepT_len (L.take i) 34 (fun k hk => h k (List.mem_of_mem_take hk)) (by rw [List.length_take]; omega)
  simp
  omega
theorem rT_all (A : Int) (d : Bool) (L : List Int) (r : ByteArray) (hr : r.data.toList = textB A d L) : rT A d L L.length = r := by
  apply ByteArray.ext
  apply Array.ext'
  rw [hr, textB_eq]
  simp [rT, pack]
set_option maxRecDepth 100000 in
set_option maxHeartbeats 4000000 in
theorem rText_good (A : Int) (d : Bool) (v : Value) (L : List Int) (w : World) (hv : IntsAt w v L) (r : ByteArray) (hp : planOK A L = true) (hr : r.data.toList = textB A d L) :
    Calls Tryd.prog 16 #[planV A d v] w fun x w' => x = .returned (.tuple #[.string r, .int .i64 0]) ∧ Below w.heap.size w w' := by
  obtain ⟨h0, h1, h2, h3, h4⟩ := planOK_parts hp
  have HE : Hid (planE A L = 0) := by show _ = _; unfold planE; rw [if_pos hp]
  have HF := Lib.hid h4
  have HA0 := Lib.hid h0
  have HA1 := Lib.hid h1
  have HL := Lib.hid h3
  have c1 : Below w.heap.size w (w.alloc (.cells #[.int .i64 A, .bool d, v] 24)) := (Below.refl _ _).alloc (Nat.le_refl _) _
  obtain ⟨k0, k1, k2⟩ := planAt_new w A d v 24
  have HV := Lib.hid (hv.below c1)
  obtain ⟨p, c, rfl, hc, _⟩ := hv
  obtain ⟨D, hD⟩ : ∃ D, dB A = D := ⟨_, rfl⟩
  have HD := Lib.hid hD
  have hsD : D.size ≤ 7 := by rw [← hD]; exact dB_size A h1
  have HZ := Lib.hid (rT_zero A d L D hD)
  have HR := Lib.hid (rT_all A d L r hr)
  clear h0 h1 h2 h3 h4 hr hp hD
  go_enter Tryd.func16, Tryd.ntmps16
  go_wp2_with fail
  refine (rcheck_any A d _ L _ HV.out (by have := HL.out; omega)).mono ?_
  rw [HE.out]
  rintro e w1 ⟨rfl, b1⟩
  replace k0 := cell_kept k0 b1
  replace k1 := cell_kept k1 b1
  replace k2 := cell_kept k2 b1
  have HV1 := Lib.hid (HV.out.below b1)
  have c2 := c1.trans (b1.mono c1.size)
  clear b1 c1 HV
  go_wp2_with fail
  refine (rdig_is A HA0.out HA1.out D HD.out _).mono ?_
  rintro e w2 ⟨rfl, b1⟩
  replace k0 := cell_kept k0 b1
  replace k1 := cell_kept k1 b1
  replace k2 := cell_kept k2 b1
  have HV2 := Lib.hid (HV1.out.below b1)
  have c3 := c2.trans (b1.mono c2.size)
  clear b1 c2 HV1
  cases d
  · go_wp2_with fail
    go_loopw [4, 5] (fun vs vi wr => ∃ i : Nat, i ≤ L.length ∧ vi = .int .i64 i ∧ vs = .string (rT A false L i) ∧ wr.cell? ⟨w.heap.size, 2, none⟩ = some (.slice p L.length c) ∧ Hid (IntsAt wr (.slice p L.length c) L) ∧ Below w.heap.size w wr) (fun _ vi _ => L.length - (intOf vi).toNat)
    case atStart => exact ⟨0, Nat.zero_le _, rfl, by rw [HZ.out]; rfl, k2, HV2, c3⟩
    case round =>
      clear c3 k0 k1 k2 HV2
      obtain ⟨i, hi, rfl, rfl, k2, hV, c3⟩ := hrel
      have hl34 := HL.out
      have hsA := rT_size A false L i HA1.out (fun k hk => by have := HF.out k hk; omega) (by omega)
      obtain ⟨S, hS⟩ : ∃ S, rT A false L i = S := ⟨_, rfl⟩
      by_cases hlt : i < L.length
      · obtain ⟨p', c', he, _, hcell⟩ := hV.out
        injection he with e1 _ e2
        subst e1 e2
        obtain ⟨b, o, rfl, hci⟩ := hcell (by omega)
        have hcx := hci i hlt
        have hmem : L.getD i 0 ∈ L := by rw [List.getD, List.getElem?_eq_getElem hlt]; exact List.getElem_mem hlt
        have hfb := HF.out _ hmem
        have hs0 := rT_one A false L
        have hs1 := rT_succ A false L i hlt
        obtain ⟨k, hk⟩ : ∃ k, L.getD i 0 = k := ⟨_, rfl⟩
        obtain ⟨E, hE⟩ : ∃ E, dB k = E := ⟨_, rfl⟩
        have hsE : E.size ≤ 7 := by rw [← hE]; exact dB_size k (by rw [← hk]; omega)
        rw [hk] at hcx hfb hs1
        rw [hE, hS] at hs1
        rw [hS] at hsA
        rw [hS]
        have HEk := Lib.hid hE
        have HFB := Lib.hid hfb
        by_cases hi0 : 0 < i
        · have d0 : decide ((0 : Int) < (i : Int)) = true := by rw [decide_eq_true_iff]; omega
          have HSn : Hid (rT A false L (i + 1) = (S ++ ⟨#[44]⟩) ++ E) := hs1 hi0
          clear hci hmem hk hE hfb hs0 hs1 hcell hS
          go_wp2_with fail
          refine (rdig_is k HFB.out.1 (by have := HFB.out.2; omega) E HEk.out _).mono ?_
          rintro e w3 ⟨rfl, b1⟩
          replace k2 := cell_kept k2 b1
          have hV3 := Lib.hid (hV.out.below b1)
          have c4 := c3.trans (b1.mono c3.size)
          clear b1 c3 hV hcx
          go_wp2_with fail
          go_roundw
          case rel => exact ⟨i + 1, by omega, by go_num, by rw [HSn.out], k2, hV3, c4⟩
          case measure => simp [intOf]; omega
        · obtain rfl : i = 0 := by omega
          rw [Nat.add_zero] at hcx
          have HSn : Hid (rT A false L 1 = S ++ E) := by show _ = _; rw [hs0 (by omega), hk, hE, hS]
          clear hci hmem hk hE hfb hs0 hs1 hcell hS
          go_wp2_with fail
          refine (rdig_is k HFB.out.1 (by have := HFB.out.2; omega) E HEk.out _).mono ?_
          rintro e w3 ⟨rfl, b1⟩
          replace k2 := cell_kept k2 b1
          have hV3 := Lib.hid (hV.out.below b1)
          have c4 := c3.trans (b1.mono c3.size)
          clear b1 c3 hV hcx
          go_wp2_with fail
          go_roundw
          case rel => exact ⟨1, by omega, rfl, by rw [HSn.out], k2, hV3, c4⟩
          case measure => simp [intOf]; omega
      · obtain rfl : i = L.length := by omega
        rw [HR.out]
        clear hlt hi hS
        go_wp2_with fail
        go_ret2
        exact ⟨rfl, c3⟩
  · go_wp2_with fail
    refine (rdig_is A HA0.out HA1.out D HD.out _).mono ?_
    rintro e w3 ⟨rfl, b1⟩
    replace k0 := cell_kept k0 b1
    replace k1 := cell_kept k1 b1
    replace k2 := cell_kept k2 b1
    have HV3 := Lib.hid (HV2.out.below b1)
    have c4 := c3.trans (b1.mono c3.size)
    clear b1 c3 HV2
    have c3 := c4
    have HV2 := HV3
    clear c4 HV3
    go_wp2_with fail
    go_loopw [4, 5] (fun vs vi wr => ∃ i : Nat, i ≤ L.length ∧ vi = .int .i64 i ∧ vs = .string (rT A true L i) ∧ wr.cell? ⟨w.heap.size, 2, none⟩ = some (.slice p L.length c) ∧ Hid (IntsAt wr (.slice p L.length c) L) ∧ Below w.heap.size w wr) (fun _ vi _ => L.length - (intOf vi).toNat)
    case atStart => exact ⟨0, Nat.zero_le _, rfl, by rw [HZ.out]; rfl, k2, HV2, c3⟩
    case round =>
      clear c3 k0 k1 k2 HV2
      obtain ⟨i, hi, rfl, rfl, k2, hV, c3⟩ := hrel
      have hl34 := HL.out
      have hsA := rT_size A true L i HA1.out (fun k hk => by have := HF.out k hk; omega) (by omega)
      obtain ⟨S, hS⟩ : ∃ S, rT A true L i = S := ⟨_, rfl⟩
      by_cases hlt : i < L.length
      · obtain ⟨p', c', he, _, hcell⟩ := hV.out
        injection he with e1 _ e2
        subst e1 e2
        obtain ⟨b, o, rfl, hci⟩ := hcell (by omega)
        have hcx := hci i hlt
        have hmem : L.getD i 0 ∈ L := by rw [List.getD, List.getElem?_eq_getElem hlt]; exact List.getElem_mem hlt
        have hfb := HF.out _ hmem
        have hs0 := rT_one A true L
        have hs1 := rT_succ A true L i hlt
        obtain ⟨k, hk⟩ : ∃ k, L.getD i 0 = k := ⟨_, rfl⟩
        obtain ⟨E, hE⟩ : ∃ E, dB k = E := ⟨_, rfl⟩
        have hsE : E.size ≤ 7 := by rw [← hE]; exact dB_size k (by rw [← hk]; omega)
        rw [hk] at hcx hfb hs1
        rw [hE, hS] at hs1
        rw [hS] at hsA
        rw [hS]
        have HEk := Lib.hid hE
        have HFB := Lib.hid hfb
        by_cases hi0 : 0 < i
        · have d0 : decide ((0 : Int) < (i : Int)) = true := by rw [decide_eq_true_iff]; omega
          have HSn : Hid (rT A true L (i + 1) = (S ++ ⟨#[44]⟩) ++ E) := hs1 hi0
          clear hci hmem hk hE hfb hs0 hs1 hcell hS
          go_wp2_with fail
          refine (rdig_is k HFB.out.1 (by have := HFB.out.2; omega) E HEk.out _).mono ?_
          rintro e w3 ⟨rfl, b1⟩
          replace k2 := cell_kept k2 b1
          have hV3 := Lib.hid (hV.out.below b1)
          have c4 := c3.trans (b1.mono c3.size)
          clear b1 c3 hV hcx
          go_wp2_with fail
          go_roundw
          case rel => exact ⟨i + 1, by omega, by go_num, by rw [HSn.out], k2, hV3, c4⟩
          case measure => simp [intOf]; omega
        · obtain rfl : i = 0 := by omega
          rw [Nat.add_zero] at hcx
          have HSn : Hid (rT A true L 1 = S ++ E) := by show _ = _; rw [hs0 (by omega), hk, hE, hS]
          clear hci hmem hk hE hfb hs0 hs1 hcell hS
          go_wp2_with fail
          refine (rdig_is k HFB.out.1 (by have := HFB.out.2; omega) E HEk.out _).mono ?_
          rintro e w3 ⟨rfl, b1⟩
          replace k2 := cell_kept k2 b1
          have hV3 := Lib.hid (hV.out.below b1)
          have c4 := c3.trans (b1.mono c3.size)
          clear b1 c3 hV hcx
          go_wp2_with fail
          go_roundw
          case rel => exact ⟨1, by omega, rfl, by rw [HSn.out], k2, hV3, c4⟩
          case measure => simp [intOf]; omega
      · obtain rfl : i = L.length := by omega
        rw [HR.out]
        clear hlt hi hS
        go_wp2_with fail
        go_ret2
        exact ⟨rfl, c3⟩
end Go.Proofs.YtoceeegdbnigeaaDoor
