/-
  Slices of numbers as an argument; script: the operations that are made of them.
  Slices of numbers as an argument: what they are as values.
  The first operations of a slice.
  Plain Lean: scripts from numbers are short, and valid.
  Plain Lean: the first wrong line of a script.
  The table of the strings that are not those of operations, as it lies in memory.
  OpWrong: the walk.
  OpWrong: for every input the law returns true, and each argument reads behind the call as before it: the statement and its card.
  Conditions: none.
-/
import Derived.Test.YtlmbcclggaflaaaGreatDoorBuH
import Derived.Test.YtlmbcclggaflaaaGreatDoorBuF
import Derived.Deep.Slices
import Derived.Test.YtlmbcclggaflaaaGreatDoorBuB
import Derived.Test.YtlmbcclggaflaaaGreatDoorBuG
import Derived.Test.YtlmbcclggaflaaaGreatDoorBuC
set_option linter.unusedVariables false
namespace Go.Proofs.YtlmbcclggaflaaaGreatDoor
open Go Go.RowKit Go.ChangeShapes Go.WideShapes Go.ChangeAt

/-- Numbers. -/
structure NumD where
  K : Nat
  Y : Nat
  Q : Nat
  T : Nat
  l : List UInt8
/-- Numbers in memory. -/
def NumCell (w : World) (b o : Nat) (d : NumD) : Prop :=
  numOK d.K d.Y d.Q d.T ∧ ∃ u, w.cell? ⟨b, o, none⟩ = some (.int .u8 d.K) ∧ w.cell? ⟨b, o + 1, none⟩ = some (.int .u8 d.Y) ∧ w.cell? ⟨b, o + 2, none⟩ = some (.int .u8 d.Q) ∧ w.cell? ⟨b, o + 3, none⟩ = some (.int .u32 d.T) ∧ w.cell? ⟨b, o + 4, none⟩ = some u ∧ BytesAt w u d.l
theorem NumCell.below {w w' : World} {b o : Nat} {d : NumD} (h : NumCell w b o d) (hb : Below w.heap.size w w') : NumCell w' b o d := by
  obtain ⟨h0, u, h1, h2, h3, h4, h5, h6⟩ := h
  exact ⟨h0, u, cell_kept h1 hb, cell_kept h2 hb, cell_kept h3 hb, cell_kept h4 hb, cell_kept h5 hb, h6.below hb⟩
def zeroNum : NumD := ⟨0, 0, 0, 0, []⟩
/-- A slice of numbers. -/
def NumsAt (w : World) (v : Value) (L : List NumD) : Prop :=
  ∃ p c, v = .slice p L.length c ∧ L.length ≤ c ∧ (0 < L.length → ∃ b o, p = some ⟨b, o, none⟩ ∧ ∀ i, i < L.length → NumCell w b (o + i * 5) (L.getD i zeroNum))
theorem NumsAt.below {w w' : World} {v : Value} {L : List NumD} (h : NumsAt w v L) (hb : Below w.heap.size w w') : NumsAt w' v L := by
  obtain ⟨p, c, hv, hc, hp⟩ := h
  refine ⟨p, c, hv, hc, fun h0 => ?_⟩
  obtain ⟨b, o, h1, h2⟩ := hp h0
  exact ⟨b, o, h1, fun i hi => (h2 i hi).below hb⟩
theorem run_upto5 (p : Option Addr) (n c m : Nat) (h : m ≤ c) (wx : World) :
    (Instr.slice 44 (.slice p n c) none (some (.int .i64 (m : Int))) none).run Tryz.prog wx = .ok (.slice p m c) wx := by
  have hs : ∀ w, (Go.sizeOf 25).run Tryz.prog w = .ok 5 w := fun w => by kernel_rfl
  have ht' : Tryz.prog.underlying 44 = some (.slice (Tryz.prog.elem 44)) := by simp [Program.elem, Tryz.underlying44]
  have he : Tryz.prog.elem 44 = 25 := by simp [Program.elem, Tryz.underlying44]
  rw [run_slice_h wx 44 p n c ht' .i64 (m : Int) (by omega) (by omega), he, hs]
  show Result.ok (sliced p 0 (m : Int).toNat c 5) wx = _
  unfold sliced
  rw [Nat.zero_mul, addr_zero]
  rfl
/-- The operations of script. -/
def opN (d : NumD) : OpD := madeO d.K d.Y d.Q d.T (d.l.take 40)
def scriptL (L : List NumD) : List OpD := (L.take 60).map opN
theorem script_snoc (L : List NumD) (i n : Nat) (hn : min L.length 60 = n) (hi : i < n) : (scriptL L).take (i + 1) = (scriptL L).take i ++ [opN (L.getD i zeroNum)] := by
  unfold scriptL
  rw [List.take_add_one]
  congr 1
  rw [List.getElem?_map, List.getElem?_take, if_pos (by omega), List.getD, List.getElem?_eq_getElem (by omega)]
  rfl
theorem script_len (L : List NumD) : (scriptL L).length = min L.length 60 := by
  unfold scriptL
  rw [List.length_map, List.length_take]
  omega
set_option maxRecDepth 100000 in
set_option maxHeartbeats 8000000 in
theorem script_any (v : Value) (L : List NumD) (w : World) (hv : NumsAt w v L) (ht : Tab w) :
    Calls Tryz.prog 20 #[v] w fun e w' => ∃ v', e = .returned v' ∧ OpsNew w.heap.size w' v' (scriptL L) ∧ Below w.heap.size w w' := by
  obtain ⟨i0, hi0, hz0, hz1, hz2⟩ := info_parts infoOp
  obtain ⟨p, c, rfl, hc, hcell⟩ := hv
  obtain ⟨N, hN⟩ : ∃ N, min L.length 60 = N := ⟨_, rfl⟩
  have hNi : min (L.length : Int) 60 = (N : Int) := by omega
  have hN60 : N ≤ 60 := by omega
  have hcut := run_upto5 p L.length c N (by omega)
  have HL := Lib.hid (show N ≤ L.length by omega)
  have HSN := Lib.hid (fun i (h : i < N) => script_snoc L i N hN h)
  have HLN := Lib.hid ((script_len L).trans hN)
  have HCL := Lib.hid hcell
  have HT := Lib.hid ht
  have h00 : Hid (OpsNew w.heap.size w (.slice none 0 0) ((scriptL L).take 0)) := OpsNew.nil _ _
  clear hcell hc hN ht
  go_enter Tryz.func20, Tryz.ntmps20
  go_wp2_with fail
  go_loopw [3, 12] (fun vo vi wr => ∃ (i : Nat) (u : Value), i ≤ N ∧ vi = .int .i64 i ∧ u = vo ∧ Hid (OpsNew w.heap.size wr u ((scriptL L).take i)) ∧ Hid (Below w.heap.size w wr)) (fun _ vi _ => N - (intOf vi).toNat)
  case atStart => exact ⟨0, _, Nat.zero_le _, rfl, rfl, h00, Lib.hid (Below.refl _ _)⟩
  case round =>
    clear h00
    obtain ⟨i, vo, hi, rfl, rfl, hr, c1⟩ := hrel
    by_cases hlt : i < N
    · have hsn := HSN.out i hlt
      obtain ⟨bb, oo, rfl, hci⟩ := HCL.out (by have := HL.out; omega)
      obtain ⟨hok, u, m0, m1, m2, m3, m4, hu⟩ := (hci i (by have := HL.out; omega)).below c1.out
      obtain ⟨d, hd⟩ : ∃ d, L.getD i zeroNum = d := ⟨_, rfl⟩
      rw [hd] at hok m0 m1 m2 m3 hu hsn
      obtain ⟨K, Y, Q, T, l⟩ := d
      replace hu : BytesAt wr u l := hu
      obtain ⟨pu, nu, cu, mu, l2, rfl, hn, hmin, hm3, hmn, hl2t, hl2, hv2, hcut2⟩ := cut_bytes hu 40
      have hmin2 : min (nu : Int) 40 = (mu : Int) := hmin
      have ho2 : opN ⟨K, Y, Q, T, l⟩ = madeO K Y Q T l2 := by
        unfold opN
        show madeO K Y Q T (l.take 40) = _
        congr 1
        rw [hl2t, List.take_eq_take_iff]
        omega
      rw [ho2] at hsn
      obtain ⟨k, a, b, x, vv, ho, hg, hf⟩ := made_op K Y Q T l2
      rw [ho] at hsn
      have HOK : Hid (numOK K Y Q T) := hok
      have HO := Lib.hid ho
      have HS1 := Lib.hid hsn
      have HV2 := Lib.hid hv2
      have b1 := (Below.refl wr.heap.size wr).alloc (Nat.le_refl _) (.cells #[.int .u8 K, .int .u8 Y, .int .u8 Q, .int .u32 T, .slice pu nu cu] 25)
      have HX := Lib.hid (NumBox.new wr K Y Q T (.slice pu nu cu) 25)
      have hfz := new_free (w := wr) #[.int .u8 K, .int .u8 Y, .int .u8 Q, .int .u32 T, .slice pu nu cu] 25 4
      have bs : Below wr.heap.size wr ((wr.alloc (.cells #[.int .u8 K, .int .u8 Y, .int .u8 Q, .int .u32 T, .slice pu nu cu] 25)).setCell ⟨wr.heap.size, 4, none⟩ (.slice pu mu cu)) := below_set b1 wr.heap.size (Nat.le_refl _) 4 _
      have hrs := Lib.hid (hr.out.below bs)
      have hvs := Lib.hid (hv2.below bs)
      have c3 := Lib.hid (c1.out.trans (bs.mono c1.out.size))
      clear ho hg hf hsn hv2 hn hmin hl2t hci hu ho2 hd hok HV2 bs
      go_upto_region 5 with fail
      clear b1 hr m0 m1 m2 m3 m4 c1
      generalize (wr.alloc (.cells #[.int .u8 K, .int .u8 Y, .int .u8 Q, .int .u32 T, .slice pu nu cu] 25)) = w3 at *
      obtain ⟨F, hF⟩ : ∃ F, wr.heap.size = F := ⟨_, rfl⟩
      rw [hF] at HX hfz hrs hvs c3
      rw [hF]
      clear hF
      obtain ⟨n0, n1, n2, n3, n4⟩ := HX.out
      have hne : ∀ i : Nat, i ≠ 4 → (⟨F, 4, none⟩ : Addr) ≠ ⟨F, i, none⟩ := fun i hij he => by injection he with e1 e2; exact hij e2.symm
      have y0 : (w3.setCell ⟨F, 4, none⟩ (.slice pu mu cu)).cell? ⟨F, 0, none⟩ = some (.int .u8 K) := by rw [World.cell?_setCell_other (h := hne 0 (by decide))]; exact n0
      have y1 : (w3.setCell ⟨F, 4, none⟩ (.slice pu mu cu)).cell? ⟨F, 1, none⟩ = some (.int .u8 Y) := by rw [World.cell?_setCell_other (h := hne 1 (by decide))]; exact n1
      have y2 : (w3.setCell ⟨F, 4, none⟩ (.slice pu mu cu)).cell? ⟨F, 2, none⟩ = some (.int .u8 Q) := by rw [World.cell?_setCell_other (h := hne 2 (by decide))]; exact n2
      have y3 : (w3.setCell ⟨F, 4, none⟩ (.slice pu mu cu)).cell? ⟨F, 3, none⟩ = some (.int .u32 T) := by rw [World.cell?_setCell_other (h := hne 3 (by decide))]; exact n3
      have y4 : (w3.setCell ⟨F, 4, none⟩ (.slice pu mu cu)).cell? ⟨F, 4, none⟩ = some (.slice pu mu cu) := World.cell?_setCell_same w3 ⟨F, 4, none⟩ _ n4
      go_upto_region 6 with fail
      clear n0 n1 n2 n3 n4 hne hfz HX
      generalize (w3.setCell ⟨F, 4, none⟩ (.slice pu mu cu)) = w4 at *
      go_wp2_with fail
      refine (made_is K Y Q T HOK.out _ l2 _ hvs.out (HT.out.below c3.out) k a b x vv HO.out).mono ?_
      rintro e w5 ⟨rfl, b1⟩
      have hr5 := Lib.hid (hrs.out.below b1)
      have c5 := Lib.hid (c3.out.trans (b1.mono c3.out.size))
      clear b1 hrs hvs c3 y0 y1 y2 y3 y4 HO HOK
      have hlen2 : ((scriptL L).take i).length = i := by rw [List.length_take, HLN.out]; omega
      have HLI := Lib.hid hlen2
      clear hlen2
      go_wp2_with (at_builtin; refine wpList_append_own _ rfl (.tmp 24) (.tmp 27) 35 rfl w.heap.size 28 i0 (.agg #[.int .i64 0, .int .i64 0, .int .i64 0, .string ⟨#[]⟩, .string ⟨#[]⟩]) 5 56 Tryz.underlying35 hi0 hz0 hz1 hz2 rfl (by decide) _ _ _ rfl (hr5.out.alloc _) ⟨w5.heap.size, 0, none⟩ 1 1 (opC ⟨k, a, b, x, vv⟩) rfl rfl (new5 _ ⟨k, a, b, x, vv⟩ _) (fun q hq => by simp [opC] at hq; rcases hq with rfl | rfl | rfl | rfl | rfl <;> rfl) (by have := HLI.out; unfold maxLen; omega) (by have := HLI.out; omega) (by have := c5.out.size; simp; omega) ?_)
      intro v' w6 hown hgrow _
      have HR2 : Hid (OpsNew w.heap.size w6 v' ((scriptL L).take (i + 1))) := by
        show World.ownsRow _ _ _ _ _ _ _
        rw [HS1.out, List.length_append, List.length_take, ← opsC_snoc]
        exact hown
      have c6 := Lib.hid ((c5.out.alloc c5.out.size (.cells #[.int .i64 k, .int .i64 a, .int .i64 b, .string x, .string vv] 28)).grown hgrow (by have := c5.out.size; simp; omega) (fun k hk => (hr5.out.lt k hk).1))
      clear hown hgrow hr5 c5
      go_wp2_with fail
      go_roundw
      case rel => exact ⟨i + 1, _, by omega, by go_num, rfl, HR2, c6⟩
      case measure => simp [intOf]; omega
    · obtain rfl : i = N := by omega
      have hr2 := hr.out
      rw [List.take_of_length_le (by have := HLN.out; omega)] at hr2
      have HR2 := Lib.hid hr2
      clear hr hr2 hlt
      go_wp2_with fail
      go_ret
      exact ⟨_, rfl, HR2.out, c1.out⟩
end Go.Proofs.YtlmbcclggaflaaaGreatDoor
namespace Go.Proofs.YtlmbcclggaflaaaGreatDoor
open Go Go.RowKit Go.ChangeShapes Go.WideShapes Go.ChangeAt

theorem spot_free {W : World} {a : Addr} {v : Value} (h1 : W.cell? (a.add 0) = some v) : a.spot = none := by
  unfold World.cell? at h1
  split at h1
  · split at h1
    · cases h1
    · rename_i hs
      simpa [Addr.add] using hs
  · cases h1
set_option maxRecDepth 100000 in
theorem open_nums {H : Type} {enc : TypeId × Value → H} {W : World} {v : Value} {d : DataW H} {ps : List MemPlace} (h : DataW.Trod enc Tryz.prog W 0 (fun _ => true) true 44 v d ps)
    (hv : ∃ a len cap, v = .slice a len cap) : ∃ L, NumsAt W v L := by
  obtain ⟨a0, n0, c0, rfl⟩ := hv
  obtain ⟨fuel, hf⟩ := h
  rcases Go.Deep.open_slice Tryz.underlying44 hf with ⟨hcs, _⟩ | ⟨a, len, cap, m, n, D, Pl, hcs, _, hl, _, hm, _, hx⟩
  · simp [Value.cells] at hcs
    obtain ⟨rfl, rfl, rfl⟩ := hcs
    exact ⟨[], none, 0, rfl, Nat.le_refl _, fun h => absurd h (Nat.lt_irrefl 0)⟩
  · simp [Value.cells] at hcs
    obtain ⟨rfl, rfl, rfl⟩ := hcs
    have hnm : n0 ≤ m := by rw [hm]; simp; omega
    have cel : ∀ i, i < n0 → ∃ k0 k1 k2 k3 k4 : Value, (∀ j v, [k0, k1, k2, k3, k4][j]? = some v → W.cell? ((a.add (i * 5)).add j) = some v) ∧ DataW.trod enc Tryz.prog W 0 (fun _ => true) true n 25 [k0, k1, k2, k3, k4] = some (D i, Pl i) := by
      intro i hi
      obtain ⟨cs', h1, h2⟩ := hx i (by omega)
      rw [cellsNum] at h1
      obtain ⟨_, hlen, hcell⟩ := World.cells?_some h1
      match cs', hlen with
      | [k0, k1, k2, k3, k4], _ =>
        refine ⟨k0, k1, k2, k3, k4, fun j v hj => ?_, h2⟩
        have hj5 : j < 5 := by
          by_cases h4 : j < 5
          · exact h4
          · rw [List.getElem?_eq_none (by simp; omega)] at hj
            cases hj
        rw [hcell j hj5, hj]
    by_cases hz : n0 = 0
    · subst hz
      exact ⟨[], some a, c0, rfl, Nat.zero_le _, fun h => absurd h (Nat.lt_irrefl 0)⟩
    have hspot : a.spot = none := by
      obtain ⟨k0, k1, k2, k3, k4, hc, _⟩ := cel 0 (by omega)
      have := hc 0 k0 rfl
      rw [Nat.zero_mul] at this
      exact spot_free (a := a) (by simpa [Addr.add] using this)
    obtain ⟨b, o, s⟩ := a
    simp at hspot
    subst hspot
    have ha : ∀ i j, ((⟨b, o, none⟩ : Addr).add (i * 5)).add j = ⟨b, o + i * 5 + j, none⟩ := fun i j => by
      unfold Addr.add
      by_cases h1 : i * 5 = 0 <;> by_cases h2 : j = 0 <;> simp [h1, h2]
    have each : ∀ i, ∃ d : NumD, i < n0 → NumCell W b (o + i * 5) d := by
      intro i
      by_cases hi : i < n0
      · obtain ⟨k0, k1, k2, k3, k4, hc, ht⟩ := cel i hi
        obtain ⟨K, Y, Q, T, u, l, hcs, hr, hb⟩ := num_of_trod ht rfl
        injection hcs with e0 hcs
        injection hcs with e1 hcs
        injection hcs with e2 hcs
        injection hcs with e3 hcs
        injection hcs with e4 hcs
        subst e0 e1 e2 e3 e4
        have q0 := hc 0 _ rfl
        have q1 := hc 1 _ rfl
        have q2 := hc 2 _ rfl
        have q3 := hc 3 _ rfl
        have q4 := hc 4 _ rfl
        rw [ha] at q0 q1 q2 q3 q4
        exact ⟨⟨K, Y, Q, T, l⟩, fun _ => ⟨hr, _, q0, q1, q2, q3, q4, hb⟩⟩
      · exact ⟨zeroNum, fun h => absurd h hi⟩
    have hlen : ((List.range n0).map fun i => Classical.choose (each i)).length = n0 := by simp
    refine ⟨(List.range n0).map fun i => Classical.choose (each i), some ⟨b, o, none⟩, c0, by rw [hlen], by rw [hlen]; exact hl, fun _ => ⟨b, o, rfl, fun i hi => ?_⟩⟩
    rw [hlen] at hi
    have e : ((List.range n0).map fun i => Classical.choose (each i)).getD i zeroNum = Classical.choose (each i) := by
      rw [List.getD, List.getElem?_map, List.getElem?_range hi]
      rfl
    rw [e]
    exact Classical.choose_spec (each i) hi
end Go.Proofs.YtlmbcclggaflaaaGreatDoor
namespace Go.Proofs.YtlmbcclggaflaaaGreatDoor
open Go Go.RowKit

theorem run_uptoO (p : Option Addr) (n c m : Nat) (h : m ≤ c) (wx : World) :
    (Instr.slice 35 (.slice p n c) none (some (.int .i64 (m : Int))) none).run Tryz.prog wx = .ok (.slice p m c) wx := by
  have hs : ∀ w, (Go.sizeOf 28).run Tryz.prog w = .ok 5 w := fun w => by kernel_rfl
  have ht' : Tryz.prog.underlying 35 = some (.slice (Tryz.prog.elem 35)) := by simp [Program.elem, Tryz.underlying35]
  have he : Tryz.prog.elem 35 = 28 := by simp [Program.elem, Tryz.underlying35]
  rw [run_slice_h wx 35 p n c ht' .i64 (m : Int) (by omega) (by omega), he, hs]
  show Result.ok (sliced p 0 (m : Int).toNat c 5) wx = _
  unfold sliced
  rw [Nat.zero_mul, addr_zero]
  rfl
theorem OpsAt.upto {w : World} {p : Option Addr} {c : Nat} {L : List OpD} (h : OpsAt w (.slice p L.length c) L) (m : Nat) (hm : m ≤ L.length) : OpsAt w (.slice p m c) (L.take m) := by
  obtain ⟨p', c', hv, hc, hp⟩ := h
  injection hv with e1 e2 e3
  subst e1 e3
  have hl : (L.take m).length = m := by rw [List.length_take]; omega
  refine ⟨p, c, by rw [hl], by rw [hl]; omega, fun h0 => ?_⟩
  rw [hl] at h0
  obtain ⟨b, o, h1, h2⟩ := hp (by omega)
  refine ⟨b, o, h1, fun i hi => ?_⟩
  rw [hl] at hi
  have e : (L.take m).getD i zeroOp = L.getD i zeroOp := by rw [List.getD, List.getElem?_take, if_pos hi, List.getD]
  rw [e]
  exact h2 i (by omega)
end Go.Proofs.YtlmbcclggaflaaaGreatDoor
namespace Go.Proofs.YtlmbcclggaflaaaGreatDoor
open Go Go.RowKit

theorem opT_len40 {o : OpD} (h : opGood o) (hv : o.val.size ≤ 40 ∨ o.kind = 7) : (opT o).length ≤ 1000 := by
  have hw : ∀ k : Int, (wordL k).length ≤ 6 := by
    intro k
    unfold wordL
    repeat' split
    all_goals decide
  have hp : ∀ a : Int, (polL a).length ≤ 7 := by
    intro a
    unfold polL
    split <;> decide
  have h1 := hw o.kind
  unfold opT
  rw [List.length_append]
  have h2 : (opR o).length ≤ 990 := by
    unfold opR
    rcases h with ⟨h0, _, _, h3, h4⟩ | ⟨h0, _, _, h3, h4⟩ | ⟨h0, _⟩ | ⟨h0, _⟩ | ⟨h0, h5, _, L, h3, h4⟩
    · rw [if_pos h0]
      have e1 := key_len h3
      have e2 : (textV o.val.data.toList).1.length ≤ 512 := by
        unfold textV
        rw [str_len]
        split
        · simp
        · split
          · simp
          · rw [hexL_length, str_len]
            omega
      simp only [List.length_cons, List.length_append]
      omega
    · rw [if_neg (by omega), if_pos h0]
      have e1 := key_len h3
      simp only [List.length_cons]
      omega
    · rw [if_neg (by omega), if_neg (by omega), if_neg (by omega), if_neg (by omega)]
      simp
    · rw [if_neg (by omega), if_neg (by omega), if_pos h0]
      have := hp o.a
      simp only [List.length_cons]
      omega
    · rw [if_neg (by omega), if_neg (by omega), if_neg (by omega), if_pos h0]
      have g := planOK_parts h3
      have e1 := dS_len o.a g.2.1
      have e2 := keepT_len L 34 (fun k hk => by have := (g.2.2.2.2 k hk).2; omega) g.2.2.2.1
      unfold crashL
      rw [h4]
      simp only [List.length_cons, List.length_append]
      omega
  omega
theorem opN_val (d : NumD) : (opN d).val.size ≤ 40 ∨ (opN d).kind = 7 := by
  unfold opN madeO
  have e0 : eB.size = 0 := rfl
  repeat' split
  · left
    show (pack ((d.l.take 40).take 512)).size ≤ 40
    rw [pack_size, List.length_take, List.length_take]
    omega
  · left
    show eB.size ≤ 40
    omega
  · left
    show eB.size ≤ 40
    omega
  · left
    show eB.size ≤ 40
    omega
  · right
    rfl
  · left
    show eB.size ≤ 40
    omega
theorem script_good (L : List NumD) : ∀ o ∈ scriptL L, opGood o := by
  intro o ho
  obtain ⟨d, _, rfl⟩ := List.mem_map.1 ho
  exact made_good _ _ _ _ _
theorem paL_bound : ∀ (L : List OpD) (n : Nat), (∀ o ∈ L, (opT o).length ≤ n) → (paL L).length ≤ L.length * (n + 1)
  | [], _, _ => Nat.zero_le _
  | o :: r, n, h => by
    have h1 := h o (by simp)
    have h2 := paL_bound r n (fun p hp => h p (by simp [hp]))
    rw [paL_cons]
    simp only [List.length_append, List.length_cons]
    rw [Nat.add_mul, Nat.one_mul]
    omega
theorem script_short (L : List NumD) : (paL (scriptL L)).length ≤ 60060 := by
  have h := paL_bound (scriptL L) 1000 (fun o ho => by
    obtain ⟨d, _, rfl⟩ := List.mem_map.1 ho
    exact opT_len40 (made_good _ _ _ _ _) (opN_val d))
  have hl := script_len L
  have h2 : (scriptL L).length * 1001 ≤ 60 * 1001 := Nat.mul_le_mul_right _ (by omega)
  omega
end Go.Proofs.YtlmbcclggaflaaaGreatDoor
namespace Go.Proofs.YtlmbcclggaflaaaGreatDoor
open Go Go.RowKit

theorem bad_mem {n : Nat} (h : n < 32) : badB.getD n [] ∈ badB := by
  have hl : badB.length = 32 := rfl
  rw [List.getD, List.getElem?_eq_getElem (by omega)]
  exact List.getElem_mem _
theorem bad_len : ∀ x ∈ badB, x.length ≤ 40 := by decide
theorem wrong_rd {M : List OpD} (hg : ∀ o ∈ M, opGood o) (hl : M.length < 2000) {n : Nat} (hn : n < 32) (r : List UInt8) {s : ByteArray} (hs : s.data.toList = paL M ++ (badB.getD n [] ++ 10 :: r)) (hz : s.size ≤ 65536) : rdA s = ([], (M.length : Int) + 1, 8) := by
  unfold rdA
  rw [if_neg (by omega), hs, pc_paL M _ hg, pc_app _ _ (bad_no10 _ (bad_mem hn)), rd_lines _ M _ 0 [] (lines_ops M hg) (by simpa using Nat.le_of_lt hl)]
  rw [rd_bad (bad_skip _ (bad_mem hn)) (by simp; omega) (by rw [(pe_bad (bad_valid n hn)).2]; decide)]
  simp
theorem wrong_text (L : List NumD) (k : Nat) : paE ((scriptL L).take k) = 0 ∧ paT ((scriptL L).take k) = pack (paL ((scriptL L).take k)) ∧ (paL ((scriptL L).take k)).length ≤ 60060 ∧ ((scriptL L).take k).length ≤ 60 := by
  have h1 := script_short L
  have h2 := paL_le (scriptL L) k
  have h3 : ((scriptL L).take k).length ≤ 60 := by
    rw [List.length_take, script_len]
    omega
  obtain ⟨e1, e2⟩ := pa_good (L := (scriptL L).take k) (fun o ho => script_good L o (List.mem_of_mem_take ho)) (by omega) (by omega)
  exact ⟨e1, e2, by omega, h3⟩
theorem wrong_all (L : List NumD) (k : Nat) (hk : k ≤ (scriptL L).length) (n : Nat) (hn : n < 32) (more : ByteArray) (hm : more.size ≤ 200) :
    rdA (((pack (paL ((scriptL L).take k)) ++ pack (badB.getD n [])) ++ ⟨#[10]⟩) ++ more) = ([], (k : Int) + 1, 8) ∧ (((pack (paL ((scriptL L).take k)) ++ pack (badB.getD n [])) ++ ⟨#[10]⟩) ++ more).size ≤ 60301 ∧ (pack (paL ((scriptL L).take k)) ++ pack (badB.getD n [])).size ≤ 60100 ∧ ((pack (paL ((scriptL L).take k)) ++ pack (badB.getD n [])) ++ ⟨#[10]⟩).size ≤ 60101 := by
  obtain ⟨_, _, h1, h2⟩ := wrong_text L k
  have h3 := bad_len _ (bad_mem hn)
  have e1 : (pack (paL ((scriptL L).take k)) ++ pack (badB.getD n [])).size ≤ 60100 := by
    rw [ByteArray.size_append, pack_size, pack_size]
    omega
  have e0 : (⟨#[10]⟩ : ByteArray).size = 1 := rfl
  have e2 : ((pack (paL ((scriptL L).take k)) ++ pack (badB.getD n [])) ++ ⟨#[10]⟩).size ≤ 60101 := by
    rw [ByteArray.size_append]
    omega
  have e3 : (((pack (paL ((scriptL L).take k)) ++ pack (badB.getD n [])) ++ ⟨#[10]⟩) ++ more).size ≤ 60301 := by
    rw [ByteArray.size_append]
    omega
  refine ⟨?_, e3, e1, e2⟩
  have hl : ((scriptL L).take k).length = k := by rw [List.length_take]; omega
  have h := wrong_rd (M := (scriptL L).take k) (fun o ho => script_good L o (List.mem_of_mem_take ho)) (by omega) hn more.data.toList (s := ((pack (paL ((scriptL L).take k)) ++ pack (badB.getD n [])) ++ ⟨#[10]⟩) ++ more) (by simp [pack]) (by omega)
  rw [hl] at h
  exact h
theorem wrong_one (n : Nat) (hn : n < 32) : opP (pack (badB.getD n [])).data.toList = zeroOp ∧ opPE (pack (badB.getD n [])).data.toList = 8 ∧ (pack (badB.getD n [])).size ≤ 100000 := by
  have h3 := bad_len _ (bad_mem hn)
  rw [pack_data]
  exact ⟨(pe_bad (bad_valid n hn)).1, (pe_bad (bad_valid n hn)).2, by rw [pack_size]; omega⟩
end Go.Proofs.YtlmbcclggaflaaaGreatDoor
namespace Go.Proofs.YtlmbcclggaflaaaGreatDoor
open Go Go.RowKit

abbrev badT (G : ByteArray) : Array Value := #[.string ⟨#[112, 117, 116, 32, 107]⟩, .string ⟨#[112, 117, 116, 32, 107, 32]⟩, .string ⟨#[112, 117, 116, 32, 107, 32, 54]⟩, .string ⟨#[112, 117, 116, 32, 107, 32, 54, 71]⟩, .string ⟨#[112, 117, 116, 32, 107, 32, 54, 65]⟩, .string ⟨#[112, 117, 116, 32, 75, 32, 54, 49]⟩, .string ⟨#[112, 117, 116, 32, 32, 107, 32, 54, 49]⟩, .string ⟨#[112, 117, 116, 32, 107, 32, 54, 49, 32]⟩, .string ⟨#[112, 117, 116, 32, 45, 32]⟩, .string ⟨#[103, 101, 116]⟩, .string ⟨#[103, 101, 116, 32]⟩, .string ⟨#[103, 101, 116, 32, 107, 32, 107]⟩, .string ⟨#[103, 101, 116, 32, 75]⟩, .string G, .string ⟨#[100, 101, 108, 101, 116, 101]⟩, .string ⟨#[100, 101, 108, 101, 116, 101, 32, 32, 107]⟩, .string ⟨#[115, 121, 110, 99, 32, 49]⟩, .string ⟨#[115, 121, 110, 99, 32]⟩, .string ⟨#[83, 116, 101, 112]⟩, .string ⟨#[115, 116, 101, 112, 13]⟩, .string ⟨#[112, 111, 108, 105, 99, 121]⟩, .string ⟨#[112, 111, 108, 105, 99, 121, 32, 49]⟩, .string ⟨#[112, 111, 108, 105, 99, 121, 32, 103, 114, 101, 101, 100, 121, 32]⟩, .string ⟨#[99, 114, 97, 115, 104]⟩, .string ⟨#[99, 114, 97, 115, 104, 32, 51, 32, 121]⟩, .string ⟨#[99, 114, 97, 115, 104, 32, 48, 51, 32, 121, 32, 48]⟩, .string ⟨#[99, 114, 97, 115, 104, 32, 51, 32, 121, 32, 56, 49, 57, 51]⟩, .string ⟨#[99, 114, 97, 115, 104, 32, 51, 32, 121, 32, 48, 44]⟩, .string ⟨#[114, 101, 111, 112, 101, 110, 32, 110, 111, 119]⟩, .string ⟨#[120]⟩, .string ⟨#[32, 35, 32, 120]⟩, .string ⟨#[112, 117, 116, 115, 32, 107, 32, 54, 49]⟩]
theorem bad_rep : (⟨#[103, 101, 116, 32]⟩ ++ (⟨(Lib.repeatL [107] 33).toArray⟩ : ByteArray) : ByteArray) = pack (badB.getD 13 []) := by kernel_rfl
set_option maxRecDepth 100000 in
theorem bad_cell (w : World) (i : Nat) (hi : i < 32) (t : TypeId) (G : ByteArray) (hG : G = pack (badB.getD 13 [])) : (w.alloc (.cells (badT G) t)).cell? ⟨w.heap.size, i, none⟩ = some (.string (pack (badB.getD i []))) := by
  rcases (show i = 0 ∨ i = 1 ∨ i = 2 ∨ i = 3 ∨ i = 4 ∨ i = 5 ∨ i = 6 ∨ i = 7 ∨ i = 8 ∨ i = 9 ∨ i = 10 ∨ i = 11 ∨ i = 12 ∨ i = 13 ∨ i = 14 ∨ i = 15 ∨ i = 16 ∨ i = 17 ∨ i = 18 ∨ i = 19 ∨ i = 20 ∨ i = 21 ∨ i = 22 ∨ i = 23 ∨ i = 24 ∨ i = 25 ∨ i = 26 ∨ i = 27 ∨ i = 28 ∨ i = 29 ∨ i = 30 ∨ i = 31 by omega) with rfl | rfl | rfl | rfl | rfl | rfl | rfl | rfl | rfl | rfl | rfl | rfl | rfl | rfl | rfl | rfl | rfl | rfl | rfl | rfl | rfl | rfl | rfl | rfl | rfl | rfl | rfl | rfl | rfl | rfl | rfl | rfl
  · exact new_cell _ _ 0 _ (by exact rfl)
  · exact new_cell _ _ 1 _ (by exact rfl)
  · exact new_cell _ _ 2 _ (by exact rfl)
  · exact new_cell _ _ 3 _ (by exact rfl)
  · exact new_cell _ _ 4 _ (by exact rfl)
  · exact new_cell _ _ 5 _ (by exact rfl)
  · exact new_cell _ _ 6 _ (by exact rfl)
  · exact new_cell _ _ 7 _ (by exact rfl)
  · exact new_cell _ _ 8 _ (by exact rfl)
  · exact new_cell _ _ 9 _ (by exact rfl)
  · exact new_cell _ _ 10 _ (by exact rfl)
  · exact new_cell _ _ 11 _ (by exact rfl)
  · exact new_cell _ _ 12 _ (by exact rfl)
  · exact new_cell _ _ 13 _ (by rw [← hG]; exact rfl)
  · exact new_cell _ _ 14 _ (by exact rfl)
  · exact new_cell _ _ 15 _ (by exact rfl)
  · exact new_cell _ _ 16 _ (by exact rfl)
  · exact new_cell _ _ 17 _ (by exact rfl)
  · exact new_cell _ _ 18 _ (by exact rfl)
  · exact new_cell _ _ 19 _ (by exact rfl)
  · exact new_cell _ _ 20 _ (by exact rfl)
  · exact new_cell _ _ 21 _ (by exact rfl)
  · exact new_cell _ _ 22 _ (by exact rfl)
  · exact new_cell _ _ 23 _ (by exact rfl)
  · exact new_cell _ _ 24 _ (by exact rfl)
  · exact new_cell _ _ 25 _ (by exact rfl)
  · exact new_cell _ _ 26 _ (by exact rfl)
  · exact new_cell _ _ 27 _ (by exact rfl)
  · exact new_cell _ _ 28 _ (by exact rfl)
  · exact new_cell _ _ 29 _ (by exact rfl)
  · exact new_cell _ _ 30 _ (by exact rfl)
  · exact new_cell _ _ 31 _ (by exact rfl)
end Go.Proofs.YtlmbcclggaflaaaGreatDoor
namespace Go.Proofs.YtlmbcclggaflaaaGreatDoor
open Go Go.RowKit

theorem script_fit (L : List NumD) : ∀ o ∈ scriptL L, opFit o := by
  intro o ho
  obtain ⟨d, _, rfl⟩ := List.mem_map.1 ho
  obtain ⟨k, a, b, x, v, e, _, hf⟩ := made_op d.K d.Y d.Q d.T (d.l.take 40)
  show opFit (madeO _ _ _ _ _)
  rw [e]
  exact hf
theorem rep107 (w : World) : Calls Tryz.prog 14 #[.string ⟨#[107]⟩, .int .i64 33] w fun e w' => e = .returned (.string ⟨(Lib.repeatL [107] 33).toArray⟩) ∧ Below w.heap.size w w' :=
  Tryz.strings_Repeat_main ⟨#[107]⟩ 33 w (by decide) (by decide) (by decide) (by decide)
set_option maxRecDepth 100000 in
set_option maxHeartbeats 8000000 in
theorem walkOpWrong (v : Value) (L : List NumD) (p : Int) (hp : (Lit.int .u8 p).wf = true) (q : Int) (hq : (Lit.int .u8 q).wf = true) (s : ByteArray) (m : Int) (w : World) (hv : NumsAt w v L) (ht : Tab w) (he : Errs w) (hm : w.cell? ⟨0, 0, none⟩ = some (.int .i64 m)) :
    Calls Tryz.prog 12 #[v, .int .u8 p, .int .u8 q, .string s] w fun e w' => e = .returned (.bool true) ∧ Below w.heap.size w w' := by
  have HE : Hid (Env m w) := ⟨ht, he, hm⟩
  have HV := Lib.hid hv
  clear ht he hm hv
  by_cases hbig : 200 < s.size
  · have d0 : decide (200 < (s.size : Int)) = true := by rw [decide_eq_true_iff]; omega
    clear hbig hp hq HV
    go_enter Tryz.func12, Tryz.ntmps12
    go_wp2_with fail
    refine (works39_any m _ HE.out).mono ?_
    rintro e w1 ⟨rfl, b1⟩
    go_wp2_with fail
    go_ret
    exact ⟨rfl, b1⟩
  · have d0 : decide (200 < (s.size : Int)) = false := by rw [decide_eq_false_iff_not]; omega
    have r1 : IntKind.u8.min = 0 := rfl
    have r2 : IntKind.u8.max = 255 := rfl
    have hp1 : 0 ≤ p ∧ p ≤ 255 := by simpa [Lit.wf, r1, r2] using hp
    have hq1 : 0 ≤ q ∧ q ≤ 255 := by simpa [Lit.wf, r1, r2] using hq
    clear r1 r2 hp hq
    obtain ⟨P, rfl⟩ : ∃ P : Nat, p = (P : Int) := ⟨p.toNat, by omega⟩
    obtain ⟨Q, rfl⟩ : ∃ Q : Nat, q = (Q : Int) := ⟨q.toNat, by omega⟩
    obtain ⟨N, hN⟩ : ∃ N, (scriptL L).length = N := ⟨_, rfl⟩
    have hN60 : N ≤ 60 := by rw [← hN, script_len]; omega
    obtain ⟨k, hk⟩ : ∃ k, P % (N + 1) = k := ⟨_, rfl⟩
    have hkN : k ≤ N := by have := Nat.mod_lt P (show 0 < N + 1 by omega); omega
    obtain ⟨j, hj⟩ : ∃ j, Q % 32 = j := ⟨_, rfl⟩
    have hj32 : j < 32 := by omega
    have hsum : IntKind.i64.wrap ((N : Int) + 1) = (N : Int) + 1 := IntWalk.i64_in _ (by omega)
    have hmod : ((P : Int) % ((N : Int) + 1)) = (k : Int) := by rw [← hk]; simp
    have hmod2 : ((Q : Int) % 32) = (j : Int) := by rw [← hj]; simp
    have hsumk : IntKind.i64.wrap ((k : Int) + 1) = (k : Int) + 1 := IntWalk.i64_in _ (by omega)
    obtain ⟨e1, e2, e3, e4⟩ := wrong_text L k
    obtain ⟨a1, a2, a3, a4⟩ := wrong_all L k (by omega) j hj32 s (by omega)
    obtain ⟨o1, o2, o3⟩ := wrong_one j hj32
    obtain ⟨X, hX⟩ : ∃ X, pack (paL ((scriptL L).take k)) = X := ⟨_, rfl⟩
    obtain ⟨B, hB⟩ : ∃ B, pack (badB.getD j []) = B := ⟨_, rfl⟩
    rw [hX] at e2 a1 a2 a3 a4
    rw [hB] at a1 a2 a3 a4 o1 o2 o3
    obtain ⟨S, hS⟩ : ∃ S, X ++ B ++ ⟨#[10]⟩ ++ s = S := ⟨_, rfl⟩
    rw [hS] at a1
    have hSs : S.size ≤ 100000 := by rw [← hS]; omega
    have HSS := Lib.hid hSs
    have q1 : ¬ 9223372036854775807 < X.size + B.size := by rw [← ByteArray.size_append]; omega
    have q2 : ¬ 9223372036854775807 < X.size + B.size + 1 := by rw [← ByteArray.size_append]; omega
    have q3 : ¬ 9223372036854775807 < X.size + B.size + 1 + s.size := by rw [← ByteArray.size_append]; omega
    have HT := Lib.hid (And.intro e1 e2)
    have HA := Lib.hid a1
    have HO1 := Lib.hid o1
    have HO2 := Lib.hid o2
    have HO3 := Lib.hid o3
    have HNN := Lib.hid hN
    have HKN := Lib.hid hkN
    have HN60 := Lib.hid hN60
    have HJ := Lib.hid hj32
    have HB := Lib.hid hB
    have HS := Lib.hid hS
    have hne1 : ((N : Int) + 1) ≠ 0 := by omega
    clear hbig e1 e2 e3 e4 a1 a2 a3 a4 o1 o2 o3 hX hB hS hN hkN hSs hN60 hk hj
    go_enter Tryz.func12, Tryz.ntmps12
    go_wp2_with fail
    refine (script_any v L _ HV.out HE.out.1).mono ?_
    rintro e w1 ⟨v1, rfl, h1, b1⟩
    obtain ⟨p1, n1, rfl⟩ := ownsRow_slice h1
    have HL1 := Lib.hid (OpsNew.at h1)
    have c1 := Lib.hid b1
    clear h1 b1 HV
    have hcut := run_uptoO p1 (scriptL L).length n1 k (by
      obtain ⟨_, _, hv, hc, _⟩ := HL1.out
      injection hv with g1 g2 g3
      have := HKN.out
      have := HNN.out
      omega)
    rw [HNN.out] at hcut
    rw [HNN.out]
    go_wp2_with fail
    refine (printAll_any _ ((scriptL L).take k) (fun o ho => script_fit L o (List.mem_of_mem_take ho)) (by rw [List.length_take]; have := HKN.out; have := HNN.out; have := HN60.out; omega) m _ (HE.out.below c1.out) (by
      have h := HL1.out
      refine (OpsAt.upto h k (by have := HKN.out; have := HNN.out; omega)))).mono ?_
    rw [HT.out.1, HT.out.2]
    rintro e w2 ⟨rfl, b1⟩
    have c2 := Lib.hid (c1.out.trans (b1.mono c1.out.size))
    clear c1
    have c1 := Lib.hid c2.out
    clear c2
    clear b1 hcut
    go_wp2_with fail
    refine (rep107 _).mono ?_
    rintro e w3 ⟨rfl, b1⟩
    have c2 := Lib.hid (c1.out.trans (b1.mono c1.out.size))
    clear c1
    have c1 := Lib.hid c2.out
    clear c2
    clear b1
    obtain ⟨G, hG⟩ : ∃ G : ByteArray, (⟨(Lib.repeatL [107] 33).toArray⟩ : ByteArray) = G := ⟨_, rfl⟩
    have hG2 : G.size = 33 := by rw [← hG]; rfl
    have q4 : ¬ 9223372036854775807 < 4 + G.size := by omega
    have hbr := bad_rep
    rw [hG] at hbr
    have HBR := Lib.hid hbr
    rw [hG]
    clear hG hbr
    have hbc := bad_cell w3 j HJ.out 9 _ HBR.out
    rw [HB.out] at hbc
    go_wp2_with fail
    have b1 := (Below.refl w3.heap.size w3).alloc (Nat.le_refl _) (.cells (badT (⟨#[103, 101, 116, 32]⟩ ++ G)) 9)
    have c2 := Lib.hid (c1.out.trans (b1.mono c1.out.size))
    clear c1
    have c1 := Lib.hid c2.out
    clear c2
    clear b1 hbc hmod2 hsum hmod
    rw [HS.out]
    refine (parseAll_is S HSS.out [] ((k : Int) + 1) 8 HA.out m _ (HE.out.below c1.out)).mono ?_
    rintro e w5 ⟨⟨p5, n5, rfl, h5⟩, b1⟩
    have c2 := Lib.hid (c1.out.trans (b1.mono c1.out.size))
    clear c1
    have c1 := Lib.hid c2.out
    clear c2
    clear b1 h5 q1 q2 q3 q4
    go_wp2_with fail
    refine (parse_is B HO3.out 0 0 0 ⟨#[]⟩ ⟨#[]⟩ 8 ⟨HO1.out, HO2.out⟩ m _ (HE.out.below c1.out)).mono ?_
    rintro e w6 ⟨rfl, b1⟩
    have c2 := Lib.hid (c1.out.trans (b1.mono c1.out.size))
    clear c1
    have c1 := Lib.hid c2.out
    clear c2
    clear b1
    have HZ := Lib.hid (OpBox.new w6 0 0 0 ⟨#[]⟩ ⟨#[]⟩ 28)
    have b1 := (Below.refl w6.heap.size w6).alloc (Nat.le_refl _) (.cells #[.int .i64 0, .int .i64 0, .int .i64 0, .string ⟨#[]⟩, .string ⟨#[]⟩] 28)
    have c2 := Lib.hid (c1.out.trans (b1.mono c1.out.size))
    clear c1
    have c1 := Lib.hid c2.out
    clear c2
    clear b1
    obtain ⟨⟨z0, z1, z2, z3, z4⟩, zf⟩ := HZ.out
    clear zf
    have heq : ∀ w, (binOp .eql 28 (opA 0 0 0 ⟨#[]⟩ ⟨#[]⟩) (opA 0 0 0 ⟨#[]⟩ ⟨#[]⟩)).run Tryz.prog w = .ok (.bool true) w := op_eql ⟨0, 0, 0, ⟨#[]⟩, ⟨#[]⟩⟩ ⟨0, 0, 0, ⟨#[]⟩, ⟨#[]⟩⟩ true (decide_eq_true rfl)
    have d1 : (((k : Int) + 1) == ((k : Int) + 1)) = true := beq_self_eq_true _
    go_wp2_with fail
    refine (works39_any m _ (HE.out.below c1.out)).mono ?_
    rintro e w7 ⟨rfl, b1⟩
    have c2 := Lib.hid (c1.out.trans (b1.mono c1.out.size))
    clear c1
    have c1 := Lib.hid c2.out
    clear c2
    clear b1 z0 z1 z2 z3 z4 HZ
    go_wp2_with fail
    go_ret
    exact ⟨rfl, c1.out⟩
end Go.Proofs.YtlmbcclggaflaaaGreatDoor
namespace Go.Proofs.YtlmbcclggaflaaaGreatDoor.lawOpWrong
open Go Go.RowKit Go.ChangeShapes Go.WideShapes Go.ChangeAt
open Go.ChangeMaps (open_string shut_string)

set_option maxRecDepth 100000 in
theorem contract (H : Type) (enc : TypeId × Value → H) (W : World) (base : Nat) (args : Array Value) (ds gs : List (DataW H)) (before : List MemPlace)
    (hval : ∀ (j : Nat) t v, Tryz.f12.params[j]? = some t → args[j]? = some v → Value.okWide Tryz.prog W .any base t v)
    (hW : DataW.Whole enc Tryz.prog Tryz.f12.params.toList Rows.opWrongSpec.vars false W args.toList ds gs before) (hL : laidMetH Tryz.prog Rows.opWrongRow.laid W) (hR : (DataW.weightsEach Tryz.prog (Tryz.f12.params.toList ++ (OpenSpec.ofChange Rows.opWrongSpec).bare.plain.varTypes Tryz.prog) (ds ++ gs)).all (· ≤ reachBytes) = true) (hS : W.ShapedOpen Tryz.prog) :
    Calls Tryz.prog 12 args W fun e W' => ∃ v, e = .returned v ∧ Rows.opWrongSpec.post enc Tryz.prog Tryz.f12 false true false false W args v W' := by
  have hW' := hW
  obtain ⟨p, q, hA0, hV, rfl, hfz, hnd⟩ := hW
  have hA : DataW.TrodAll enc Tryz.prog W 0 (fun _ => true) true Tryz.f12.params.toList args.toList ds p := hA0
  rw [Tryz.params12] at hA hval
  obtain ⟨v0, vs0, d0, ds0, p0, q0, hargs, rfl, rfl, h0, r0⟩ := trodAll_cons hA
  obtain ⟨v1, vs1, d1, ds1, p1, q1, rfl, rfl, rfl, h1, r1⟩ := trodAll_cons r0
  obtain ⟨v2, vs2, d2, ds2, p2, q2, rfl, rfl, rfl, h2, r2⟩ := trodAll_cons r1
  obtain ⟨v3, vs3, d3, ds3, p3, q3, rfl, rfl, rfl, h3, r3⟩ := trodAll_cons r2
  obtain ⟨rfl, rfl, rfl⟩ := trodAll_nil r3
  obtain rfl : args = #[v0, v1, v2, v3] := by cases args; simp_all
  obtain ⟨rfl, rfl⟩ := trodVars_none hV
  obtain ⟨mL, hm⟩ := maxLen_of hS
  obtain ⟨l0, B0⟩ := open_nums h0 (okWide_slice Tryz.underlying44 (hval 0 44 v0 rfl rfl))
  obtain ⟨a1, rfl, rfl, rfl, ws1⟩ := open_int Tryz.underlying5 (hval 1 5 v1 rfl rfl) h1
  obtain ⟨a2, rfl, rfl, rfl, ws2⟩ := open_int Tryz.underlying5 (hval 2 5 v2 rfl rfl) h2
  obtain ⟨a3, rfl, rfl, rfl, ws3⟩ := open_string Tryz.underlying9 (hval 3 9 v3 rfl rfl) h3
  clear hA0
  simp only [List.append_nil] at hW'
  have hlt := fun x hx => hW'.lt x hx
  refine (walkOpWrong v0 l0 a1 ws1 a2 ws2 a3 mL W B0 (tab_of_laid hL) (errs_of_laid hL) hm).mono fun e W' ⟨he, hb⟩ => ?_
  subst he
  refine ⟨_, rfl, _, _, _, [], (p0 ++ ([] ++ ([] ++ ([] ++ [])))), [], hW', ?_, ?_, rfl, hb.frame _, fun h => by cases h⟩
  · exact trodAll_cons_mk (shut_bool Tryz.underlying4 _) trodAll_mk0
  · exact trodAll_cons_mk (Below.trod (by kernel_rfl) (by kernel_rfl) (of_decide_eq_true (by kernel_rfl)) h0 hb (fun x hx => by simpa using hlt x (by simp [hx]))) (trodAll_cons_mk (shut_int Tryz.underlying5 ws1) (trodAll_cons_mk (shut_int Tryz.underlying5 ws2) (trodAll_cons_mk (shut_string Tryz.underlying9 ws3) trodAll_mk0)))

theorem reads (os : Os) {H : Type} (enc : TypeId × Value → H) : ∃ places, DataW.whole enc Tryz.prog ((laidWorld os).forCall (fun _ _ => 0) ⟨#[], #[.slice none 0 0, .int .u8 0, .int .u8 0, .string ⟨#[]⟩], []⟩).memory Tryz.f12.params.toList Rows.opWrongSpec.vars false (#[.slice none 0 0, .int .u8 0, .int .u8 0, .string ⟨#[]⟩] : Array Value).toList 8 = some ([.nil, .lit (.int .u8 0), .lit (.int .u8 0), .lit (.string [])], [], places) :=
  ⟨[], by kernel_rfl⟩

set_option maxRecDepth 100000 in
theorem lifted (os : Os) (started : os.Started) (H : Type) (enc : TypeId × Value → H) (F : Stop.Interp) :
    ReturnsInHanded {} Tryz.checked os 12 .any ((OpenSpec.ofChange Rows.opWrongSpec).preRow enc Tryz.prog Tryz.f12 Rows.opWrongRow.domain false Rows.opWrongRow.laid) (((OpenSpec.ofChange Rows.opWrongSpec).at F).post enc Tryz.prog Tryz.f12 false true false false) := by
  obtain ⟨places, hx⟩ := reads os enc
  refine returnsInHanded_of_row (C := Tryz.checked) (s := OpenSpec.ofChange Rows.opWrongSpec) own started (by kernel_rfl) Tryz.func12
    (witness_row_atRef (enc := enc) (C := Tryz.checked) false (laidWorld os) #[.slice none 0 0, .int .u8 0, .int .u8 0, .string ⟨#[]⟩] rfl (by kernel_rfl) (by kernel_rfl) (by kernel_rfl)
      (OpenSpec.preRow_of_cond 8 hx (by kernel_rfl) (fun k hk => by cases hk) (by kernel_rfl) (laid_met os _))) ?_
  intro W base args ds gs before hval hW _ _ hR hL hS _
  exact contract H enc W base args ds gs before hval hW hL hR hS

theorem said : Rows.OpWrongSaid :=
  OpenClaim.holds_of_cond 12 Tryz.f12 rfl rfl rfl rfl rfl rfl rfl ⟨rfl, rfl, rfl, rfl, rfl⟩ rfl rfl rfl rfl rfl (by kernel_rfl) Tryz.func12 (by kernel_rfl)
    (of_decide_eq_true (by kernel_rfl)) (by unfold Func.isWrapper; first | (rw [if_pos (by decide +kernel)]; kernel_rfl) | (rw [if_neg (by decide +kernel)]; exact ⟨rfl, rfl⟩))
    (fun os started H enc _ F => by rw [OpenClaim.pre_eq_preRow]; exact lifted os started H enc F)

theorem plain (f : FuncId) (fn : Func) (hf : Tryz.pinned.checked.prog.funcNamed Tryz.f12.name = some f) (hfn : Tryz.pinned.checked.prog.funcs[f]? = some fn) :
    true = Tryz.pinned.checked.prog.looks [] ∧ ∀ (j : Nat) t, fn.params[j]? = some t → Tryz.pinned.checked.prog.wantsStandIn t = false := by
  obtain rfl : f = 12 := Option.some.inj ((show Tryz.prog.funcNamed Tryz.f12.name = some 12 by kernel_rfl).symm.trans hf) |>.symm
  obtain rfl : fn = Tryz.f12 := (Option.some.inj (Tryz.func12.symm.trans hfn)).symm
  refine ⟨by kernel_rfl, fun j t ht => ?_⟩
  have key : Tryz.f12.params.all (fun t => !Tryz.prog.wantsStandIn t) = true := by kernel_rfl
  have h2 := Array.all_eq_true_iff_forall_mem.1 key t (Array.mem_of_getElem? ht)
  rw [Bool.not_eq_true'] at h2
  exact h2

theorem proved : Rows.OpWrongCardSaid :=
  Claim7.holds_tied_plain_at .later [] _ _ _ _ said (fun _ h => by cases h) (by kernel_rfl) (fun _ h => by cases h) opWrong_row_tie rfl ⟨rfl, rfl⟩ (by kernel_rfl) rfl plain (by kernel_rfl)
end Go.Proofs.YtlmbcclggaflaaaGreatDoor.lawOpWrong
