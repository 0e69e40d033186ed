/-
  Slices of numbers as an argument; script: the operations that are made of them.
  Slices of numbers as an argument: what they are as values.
  Plain Lean: scripts from numbers are short, and valid.
  copy of elements of more than one cell into a row that the call made; plain: a list one behind the other.
  slices.Insert of one string into a slice that the call owns.
  Plain Lean: the lines of a script with their line feeds, one behind the other, and without the last line feed; what SplitAfter gives.
  OpScripts: the walk.
  OpScripts: for every input the law returns true, and each argument reads behind the call as before it: the statement and its card.
  Conditions: none.
-/
import Derived.Test.YtlmbcclggaflaaaGreatDoorBuH
import Derived.Test.YtlmbcclggaflaaaGreatDoorBuF
import Derived.Deep.Slices
import Derived.Test.YtlmbcclggaflaaaGreatDoorBuB
import Derived.Laws.CopyOwn
import Derived.Test.YtlmbcclggaflaaaGreatDoorShelf
import Derived.Shelf.Spec.SlicesInsertGrow
import Derived.Test.YtlmbcclggaflaaaGreatDoorBuG
set_option linter.unusedVariables false
namespace Go.Proofs.YtlmbcclggaflaaaGreatDoor
open Go Go.RowKit Go.ChangeShapes Go.WideShapes Go.ChangeAt

/-- Numbers. -/
structure NumD where
  K : Nat
  Y : Nat
  Q : Nat
  T : Nat
  l : List UInt8
/-- Numbers in memory. -/
def NumCell (w : World) (b o : Nat) (d : NumD) : Prop :=
  numOK d.K d.Y d.Q d.T ∧ ∃ u, w.cell? ⟨b, o, none⟩ = some (.int .u8 d.K) ∧ w.cell? ⟨b, o + 1, none⟩ = some (.int .u8 d.Y) ∧ w.cell? ⟨b, o + 2, none⟩ = some (.int .u8 d.Q) ∧ w.cell? ⟨b, o + 3, none⟩ = some (.int .u32 d.T) ∧ w.cell? ⟨b, o + 4, none⟩ = some u ∧ BytesAt w u d.l
theorem NumCell.below {w w' : World} {b o : Nat} {d : NumD} (h : NumCell w b o d) (hb : Below w.heap.size w w') : NumCell w' b o d := by
  obtain ⟨h0, u, h1, h2, h3, h4, h5, h6⟩ := h
  exact ⟨h0, u, cell_kept h1 hb, cell_kept h2 hb, cell_kept h3 hb, cell_kept h4 hb, cell_kept h5 hb, h6.below hb⟩
def zeroNum : NumD := ⟨0, 0, 0, 0, []⟩
/-- A slice of numbers. -/
def NumsAt (w : World) (v : Value) (L : List NumD) : Prop :=
  ∃ p c, v = .slice p L.length c ∧ L.length ≤ c ∧ (0 < L.length → ∃ b o, p = some ⟨b, o, none⟩ ∧ ∀ i, i < L.length → NumCell w b (o + i * 5) (L.getD i zeroNum))
theorem NumsAt.below {w w' : World} {v : Value} {L : List NumD} (h : NumsAt w v L) (hb : Below w.heap.size w w') : NumsAt w' v L := by
  obtain ⟨p, c, hv, hc, hp⟩ := h
  refine ⟨p, c, hv, hc, fun h0 => ?_⟩
  obtain ⟨b, o, h1, h2⟩ := hp h0
  exact ⟨b, o, h1, fun i hi => (h2 i hi).below hb⟩
theorem run_upto5 (p : Option Addr) (n c m : Nat) (h : m ≤ c) (wx : World) :
    (Instr.slice 44 (.slice p n c) none (some (.int .i64 (m : Int))) none).run Tryz.prog wx = .ok (.slice p m c) wx := by
  have hs : ∀ w, (Go.sizeOf 25).run Tryz.prog w = .ok 5 w := fun w => by kernel_rfl
  have ht' : Tryz.prog.underlying 44 = some (.slice (Tryz.prog.elem 44)) := by simp [Program.elem, Tryz.underlying44]
  have he : Tryz.prog.elem 44 = 25 := by simp [Program.elem, Tryz.underlying44]
  rw [run_slice_h wx 44 p n c ht' .i64 (m : Int) (by omega) (by omega), he, hs]
  show Result.ok (sliced p 0 (m : Int).toNat c 5) wx = _
  unfold sliced
  rw [Nat.zero_mul, addr_zero]
  rfl
/-- The operations of script. -/
def opN (d : NumD) : OpD := madeO d.K d.Y d.Q d.T (d.l.take 40)
def scriptL (L : List NumD) : List OpD := (L.take 60).map opN
theorem script_snoc (L : List NumD) (i n : Nat) (hn : min L.length 60 = n) (hi : i < n) : (scriptL L).take (i + 1) = (scriptL L).take i ++ [opN (L.getD i zeroNum)] := by
  unfold scriptL
  rw [List.take_add_one]
  congr 1
  rw [List.getElem?_map, List.getElem?_take, if_pos (by omega), List.getD, List.getElem?_eq_getElem (by omega)]
  rfl
theorem script_len (L : List NumD) : (scriptL L).length = min L.length 60 := by
  unfold scriptL
  rw [List.length_map, List.length_take]
  omega
set_option maxRecDepth 100000 in
set_option maxHeartbeats 8000000 in
theorem script_any (v : Value) (L : List NumD) (w : World) (hv : NumsAt w v L) (ht : Tab w) :
    Calls Tryz.prog 20 #[v] w fun e w' => ∃ v', e = .returned v' ∧ OpsNew w.heap.size w' v' (scriptL L) ∧ Below w.heap.size w w' := by
  obtain ⟨i0, hi0, hz0, hz1, hz2⟩ := info_parts infoOp
  obtain ⟨p, c, rfl, hc, hcell⟩ := hv
  obtain ⟨N, hN⟩ : ∃ N, min L.length 60 = N := ⟨_, rfl⟩
  have hNi : min (L.length : Int) 60 = (N : Int) := by omega
  have hN60 : N ≤ 60 := by omega
  have hcut := run_upto5 p L.length c N (by omega)
  have HL := Lib.hid (show N ≤ L.length by omega)
  have HSN := Lib.hid (fun i (h : i < N) => script_snoc L i N hN h)
  have HLN := Lib.hid ((script_len L).trans hN)
  have HCL := Lib.hid hcell
  have HT := Lib.hid ht
  have h00 : Hid (OpsNew w.heap.size w (.slice none 0 0) ((scriptL L).take 0)) := OpsNew.nil _ _
  clear hcell hc hN ht
  go_enter Tryz.func20, Tryz.ntmps20
  go_wp2_with fail
  go_loopw [3, 12] (fun vo vi wr => ∃ (i : Nat) (u : Value), i ≤ N ∧ vi = .int .i64 i ∧ u = vo ∧ Hid (OpsNew w.heap.size wr u ((scriptL L).take i)) ∧ Hid (Below w.heap.size w wr)) (fun _ vi _ => N - (intOf vi).toNat)
  case atStart => exact ⟨0, _, Nat.zero_le _, rfl, rfl, h00, Lib.hid (Below.refl _ _)⟩
  case round =>
    clear h00
    obtain ⟨i, vo, hi, rfl, rfl, hr, c1⟩ := hrel
    by_cases hlt : i < N
    · have hsn := HSN.out i hlt
      obtain ⟨bb, oo, rfl, hci⟩ := HCL.out (by have := HL.out; omega)
      obtain ⟨hok, u, m0, m1, m2, m3, m4, hu⟩ := (hci i (by have := HL.out; omega)).below c1.out
      obtain ⟨d, hd⟩ : ∃ d, L.getD i zeroNum = d := ⟨_, rfl⟩
      rw [hd] at hok m0 m1 m2 m3 hu hsn
      obtain ⟨K, Y, Q, T, l⟩ := d
      replace hu : BytesAt wr u l := hu
      obtain ⟨pu, nu, cu, mu, l2, rfl, hn, hmin, hm3, hmn, hl2t, hl2, hv2, hcut2⟩ := cut_bytes hu 40
      have hmin2 : min (nu : Int) 40 = (mu : Int) := hmin
      have ho2 : opN ⟨K, Y, Q, T, l⟩ = madeO K Y Q T l2 := by
        unfold opN
        show madeO K Y Q T (l.take 40) = _
        congr 1
        rw [hl2t, List.take_eq_take_iff]
        omega
      rw [ho2] at hsn
      obtain ⟨k, a, b, x, vv, ho, hg, hf⟩ := made_op K Y Q T l2
      rw [ho] at hsn
      have HOK : Hid (numOK K Y Q T) := hok
      have HO := Lib.hid ho
      have HS1 := Lib.hid hsn
      have HV2 := Lib.hid hv2
      have b1 := (Below.refl wr.heap.size wr).alloc (Nat.le_refl _) (.cells #[.int .u8 K, .int .u8 Y, .int .u8 Q, .int .u32 T, .slice pu nu cu] 25)
      have HX := Lib.hid (NumBox.new wr K Y Q T (.slice pu nu cu) 25)
      have hfz := new_free (w := wr) #[.int .u8 K, .int .u8 Y, .int .u8 Q, .int .u32 T, .slice pu nu cu] 25 4
      have bs : Below wr.heap.size wr ((wr.alloc (.cells #[.int .u8 K, .int .u8 Y, .int .u8 Q, .int .u32 T, .slice pu nu cu] 25)).setCell ⟨wr.heap.size, 4, none⟩ (.slice pu mu cu)) := below_set b1 wr.heap.size (Nat.le_refl _) 4 _
      have hrs := Lib.hid (hr.out.below bs)
      have hvs := Lib.hid (hv2.below bs)
      have c3 := Lib.hid (c1.out.trans (bs.mono c1.out.size))
      clear ho hg hf hsn hv2 hn hmin hl2t hci hu ho2 hd hok HV2 bs
      go_upto_region 5 with fail
      clear b1 hr m0 m1 m2 m3 m4 c1
      generalize (wr.alloc (.cells #[.int .u8 K, .int .u8 Y, .int .u8 Q, .int .u32 T, .slice pu nu cu] 25)) = w3 at *
      obtain ⟨F, hF⟩ : ∃ F, wr.heap.size = F := ⟨_, rfl⟩
      rw [hF] at HX hfz hrs hvs c3
      rw [hF]
      clear hF
      obtain ⟨n0, n1, n2, n3, n4⟩ := HX.out
      have hne : ∀ i : Nat, i ≠ 4 → (⟨F, 4, none⟩ : Addr) ≠ ⟨F, i, none⟩ := fun i hij he => by injection he with e1 e2; exact hij e2.symm
      have y0 : (w3.setCell ⟨F, 4, none⟩ (.slice pu mu cu)).cell? ⟨F, 0, none⟩ = some (.int .u8 K) := by rw [World.cell?_setCell_other (h := hne 0 (by decide))]; exact n0
      have y1 : (w3.setCell ⟨F, 4, none⟩ (.slice pu mu cu)).cell? ⟨F, 1, none⟩ = some (.int .u8 Y) := by rw [World.cell?_setCell_other (h := hne 1 (by decide))]; exact n1
      have y2 : (w3.setCell ⟨F, 4, none⟩ (.slice pu mu cu)).cell? ⟨F, 2, none⟩ = some (.int .u8 Q) := by rw [World.cell?_setCell_other (h := hne 2 (by decide))]; exact n2
      have y3 : (w3.setCell ⟨F, 4, none⟩ (.slice pu mu cu)).cell? ⟨F, 3, none⟩ = some (.int .u32 T) := by rw [World.cell?_setCell_other (h := hne 3 (by decide))]; exact n3
      have y4 : (w3.setCell ⟨F, 4, none⟩ (.slice pu mu cu)).cell? ⟨F, 4, none⟩ = some (.slice pu mu cu) := World.cell?_setCell_same w3 ⟨F, 4, none⟩ _ n4
      go_upto_region 6 with fail
      clear n0 n1 n2 n3 n4 hne hfz HX
      generalize (w3.setCell ⟨F, 4, none⟩ (.slice pu mu cu)) = w4 at *
      go_wp2_with fail
      refine (made_is K Y Q T HOK.out _ l2 _ hvs.out (HT.out.below c3.out) k a b x vv HO.out).mono ?_
      rintro e w5 ⟨rfl, b1⟩
      have hr5 := Lib.hid (hrs.out.below b1)
      have c5 := Lib.hid (c3.out.trans (b1.mono c3.out.size))
      clear b1 hrs hvs c3 y0 y1 y2 y3 y4 HO HOK
      have hlen2 : ((scriptL L).take i).length = i := by rw [List.length_take, HLN.out]; omega
      have HLI := Lib.hid hlen2
      clear hlen2
      go_wp2_with (at_builtin; refine wpList_append_own _ rfl (.tmp 24) (.tmp 27) 35 rfl w.heap.size 28 i0 (.agg #[.int .i64 0, .int .i64 0, .int .i64 0, .string ⟨#[]⟩, .string ⟨#[]⟩]) 5 56 Tryz.underlying35 hi0 hz0 hz1 hz2 rfl (by decide) _ _ _ rfl (hr5.out.alloc _) ⟨w5.heap.size, 0, none⟩ 1 1 (opC ⟨k, a, b, x, vv⟩) rfl rfl (new5 _ ⟨k, a, b, x, vv⟩ _) (fun q hq => by simp [opC] at hq; rcases hq with rfl | rfl | rfl | rfl | rfl <;> rfl) (by have := HLI.out; unfold maxLen; omega) (by have := HLI.out; omega) (by have := c5.out.size; simp; omega) ?_)
      intro v' w6 hown hgrow _
      have HR2 : Hid (OpsNew w.heap.size w6 v' ((scriptL L).take (i + 1))) := by
        show World.ownsRow _ _ _ _ _ _ _
        rw [HS1.out, List.length_append, List.length_take, ← opsC_snoc]
        exact hown
      have c6 := Lib.hid ((c5.out.alloc c5.out.size (.cells #[.int .i64 k, .int .i64 a, .int .i64 b, .string x, .string vv] 28)).grown hgrow (by have := c5.out.size; simp; omega) (fun k hk => (hr5.out.lt k hk).1))
      clear hown hgrow hr5 c5
      go_wp2_with fail
      go_roundw
      case rel => exact ⟨i + 1, _, by omega, by go_num, rfl, HR2, c6⟩
      case measure => simp [intOf]; omega
    · obtain rfl : i = N := by omega
      have hr2 := hr.out
      rw [List.take_of_length_le (by have := HLN.out; omega)] at hr2
      have HR2 := Lib.hid hr2
      clear hr hr2 hlt
      go_wp2_with fail
      go_ret
      exact ⟨_, rfl, HR2.out, c1.out⟩
end Go.Proofs.YtlmbcclggaflaaaGreatDoor
namespace Go.Proofs.YtlmbcclggaflaaaGreatDoor
open Go Go.RowKit Go.ChangeShapes Go.WideShapes Go.ChangeAt

theorem spot_free {W : World} {a : Addr} {v : Value} (h1 : W.cell? (a.add 0) = some v) : a.spot = none := by
  unfold World.cell? at h1
  split at h1
  · split at h1
    · cases h1
    · rename_i hs
      simpa [Addr.add] using hs
  · cases h1
set_option maxRecDepth 100000 in
theorem open_nums {H : Type} {enc : TypeId × Value → H} {W : World} {v : Value} {d : DataW H} {ps : List MemPlace} (h : DataW.Trod enc Tryz.prog W 0 (fun _ => true) true 44 v d ps)
    (hv : ∃ a len cap, v = .slice a len cap) : ∃ L, NumsAt W v L := by
  obtain ⟨a0, n0, c0, rfl⟩ := hv
  obtain ⟨fuel, hf⟩ := h
  rcases Go.Deep.open_slice Tryz.underlying44 hf with ⟨hcs, _⟩ | ⟨a, len, cap, m, n, D, Pl, hcs, _, hl, _, hm, _, hx⟩
  · simp [Value.cells] at hcs
    obtain ⟨rfl, rfl, rfl⟩ := hcs
    exact ⟨[], none, 0, rfl, Nat.le_refl _, fun h => absurd h (Nat.lt_irrefl 0)⟩
  · simp [Value.cells] at hcs
    obtain ⟨rfl, rfl, rfl⟩ := hcs
    have hnm : n0 ≤ m := by rw [hm]; simp; omega
    have cel : ∀ i, i < n0 → ∃ k0 k1 k2 k3 k4 : Value, (∀ j v, [k0, k1, k2, k3, k4][j]? = some v → W.cell? ((a.add (i * 5)).add j) = some v) ∧ DataW.trod enc Tryz.prog W 0 (fun _ => true) true n 25 [k0, k1, k2, k3, k4] = some (D i, Pl i) := by
      intro i hi
      obtain ⟨cs', h1, h2⟩ := hx i (by omega)
      rw [cellsNum] at h1
      obtain ⟨_, hlen, hcell⟩ := World.cells?_some h1
      match cs', hlen with
      | [k0, k1, k2, k3, k4], _ =>
        refine ⟨k0, k1, k2, k3, k4, fun j v hj => ?_, h2⟩
        have hj5 : j < 5 := by
          by_cases h4 : j < 5
          · exact h4
          · rw [List.getElem?_eq_none (by simp; omega)] at hj
            cases hj
        rw [hcell j hj5, hj]
    by_cases hz : n0 = 0
    · subst hz
      exact ⟨[], some a, c0, rfl, Nat.zero_le _, fun h => absurd h (Nat.lt_irrefl 0)⟩
    have hspot : a.spot = none := by
      obtain ⟨k0, k1, k2, k3, k4, hc, _⟩ := cel 0 (by omega)
      have := hc 0 k0 rfl
      rw [Nat.zero_mul] at this
      exact spot_free (a := a) (by simpa [Addr.add] using this)
    obtain ⟨b, o, s⟩ := a
    simp at hspot
    subst hspot
    have ha : ∀ i j, ((⟨b, o, none⟩ : Addr).add (i * 5)).add j = ⟨b, o + i * 5 + j, none⟩ := fun i j => by
      unfold Addr.add
      by_cases h1 : i * 5 = 0 <;> by_cases h2 : j = 0 <;> simp [h1, h2]
    have each : ∀ i, ∃ d : NumD, i < n0 → NumCell W b (o + i * 5) d := by
      intro i
      by_cases hi : i < n0
      · obtain ⟨k0, k1, k2, k3, k4, hc, ht⟩ := cel i hi
        obtain ⟨K, Y, Q, T, u, l, hcs, hr, hb⟩ := num_of_trod ht rfl
        injection hcs with e0 hcs
        injection hcs with e1 hcs
        injection hcs with e2 hcs
        injection hcs with e3 hcs
        injection hcs with e4 hcs
        subst e0 e1 e2 e3 e4
        have q0 := hc 0 _ rfl
        have q1 := hc 1 _ rfl
        have q2 := hc 2 _ rfl
        have q3 := hc 3 _ rfl
        have q4 := hc 4 _ rfl
        rw [ha] at q0 q1 q2 q3 q4
        exact ⟨⟨K, Y, Q, T, l⟩, fun _ => ⟨hr, _, q0, q1, q2, q3, q4, hb⟩⟩
      · exact ⟨zeroNum, fun h => absurd h hi⟩
    have hlen : ((List.range n0).map fun i => Classical.choose (each i)).length = n0 := by simp
    refine ⟨(List.range n0).map fun i => Classical.choose (each i), some ⟨b, o, none⟩, c0, by rw [hlen], by rw [hlen]; exact hl, fun _ => ⟨b, o, rfl, fun i hi => ?_⟩⟩
    rw [hlen] at hi
    have e : ((List.range n0).map fun i => Classical.choose (each i)).getD i zeroNum = Classical.choose (each i) := by
      rw [List.getD, List.getElem?_map, List.getElem?_range hi]
      rfl
    rw [e]
    exact Classical.choose_spec (each i) hi
end Go.Proofs.YtlmbcclggaflaaaGreatDoor
namespace Go.Proofs.YtlmbcclggaflaaaGreatDoor
open Go Go.RowKit

theorem opT_len40 {o : OpD} (h : opGood o) (hv : o.val.size ≤ 40 ∨ o.kind = 7) : (opT o).length ≤ 1000 := by
  have hw : ∀ k : Int, (wordL k).length ≤ 6 := by
    intro k
    unfold wordL
    repeat' split
    all_goals decide
  have hp : ∀ a : Int, (polL a).length ≤ 7 := by
    intro a
    unfold polL
    split <;> decide
  have h1 := hw o.kind
  unfold opT
  rw [List.length_append]
  have h2 : (opR o).length ≤ 990 := by
    unfold opR
    rcases h with ⟨h0, _, _, h3, h4⟩ | ⟨h0, _, _, h3, h4⟩ | ⟨h0, _⟩ | ⟨h0, _⟩ | ⟨h0, h5, _, L, h3, h4⟩
    · rw [if_pos h0]
      have e1 := key_len h3
      have e2 : (textV o.val.data.toList).1.length ≤ 512 := by
        unfold textV
        rw [str_len]
        split
        · simp
        · split
          · simp
          · rw [hexL_length, str_len]
            omega
      simp only [List.length_cons, List.length_append]
      omega
    · rw [if_neg (by omega), if_pos h0]
      have e1 := key_len h3
      simp only [List.length_cons]
      omega
    · rw [if_neg (by omega), if_neg (by omega), if_neg (by omega), if_neg (by omega)]
      simp
    · rw [if_neg (by omega), if_neg (by omega), if_pos h0]
      have := hp o.a
      simp only [List.length_cons]
      omega
    · rw [if_neg (by omega), if_neg (by omega), if_neg (by omega), if_pos h0]
      have g := planOK_parts h3
      have e1 := dS_len o.a g.2.1
      have e2 := keepT_len L 34 (fun k hk => by have := (g.2.2.2.2 k hk).2; omega) g.2.2.2.1
      unfold crashL
      rw [h4]
      simp only [List.length_cons, List.length_append]
      omega
  omega
theorem opN_val (d : NumD) : (opN d).val.size ≤ 40 ∨ (opN d).kind = 7 := by
  unfold opN madeO
  have e0 : eB.size = 0 := rfl
  repeat' split
  · left
    show (pack ((d.l.take 40).take 512)).size ≤ 40
    rw [pack_size, List.length_take, List.length_take]
    omega
  · left
    show eB.size ≤ 40
    omega
  · left
    show eB.size ≤ 40
    omega
  · left
    show eB.size ≤ 40
    omega
  · right
    rfl
  · left
    show eB.size ≤ 40
    omega
theorem script_good (L : List NumD) : ∀ o ∈ scriptL L, opGood o := by
  intro o ho
  obtain ⟨d, _, rfl⟩ := List.mem_map.1 ho
  exact made_good _ _ _ _ _
theorem paL_bound : ∀ (L : List OpD) (n : Nat), (∀ o ∈ L, (opT o).length ≤ n) → (paL L).length ≤ L.length * (n + 1)
  | [], _, _ => Nat.zero_le _
  | o :: r, n, h => by
    have h1 := h o (by simp)
    have h2 := paL_bound r n (fun p hp => h p (by simp [hp]))
    rw [paL_cons]
    simp only [List.length_append, List.length_cons]
    rw [Nat.add_mul, Nat.one_mul]
    omega
theorem script_short (L : List NumD) : (paL (scriptL L)).length ≤ 60060 := by
  have h := paL_bound (scriptL L) 1000 (fun o ho => by
    obtain ⟨d, _, rfl⟩ := List.mem_map.1 ho
    exact opT_len40 (made_good _ _ _ _ _) (opN_val d))
  have hl := script_len L
  have h2 : (scriptL L).length * 1001 ≤ 60 * 1001 := Nat.mul_le_mul_right _ (by omega)
  omega
end Go.Proofs.YtlmbcclggaflaaaGreatDoor
namespace Go.Proofs.YtlmbcclggaflaaaGreatDoor
open Go Go.RowKit

/-- A list n times, one behind the other. -/
def repV {α : Type} (n : Nat) (X : List α) : List α := (List.replicate n X).flatten
theorem repV_zero {α : Type} (X : List α) : repV 0 X = [] := rfl
theorem repV_succ {α : Type} (n : Nat) (X : List α) : repV (n + 1) X = X ++ repV n X := by
  unfold repV
  rw [List.replicate_succ, List.flatten_cons]
theorem repV_one {α : Type} (X : List α) : repV 1 X = X := by rw [repV_succ, repV_zero, List.append_nil]
theorem repV_len {α : Type} (X : List α) : ∀ n, (repV n X).length = n * X.length
  | 0 => by rw [repV_zero, Nat.zero_mul]; rfl
  | n + 1 => by rw [repV_succ, List.length_append, repV_len X n, Nat.add_mul, Nat.one_mul, Nat.add_comm]
theorem repV_add {α : Type} (X : List α) (b : Nat) : ∀ a, repV (a + b) X = repV a X ++ repV b X
  | 0 => by rw [Nat.zero_add]; rfl
  | a + 1 => by rw [show a + 1 + b = (a + b) + 1 by omega, repV_succ, repV_succ, repV_add X b a, List.append_assoc]
theorem repV_mem {α : Type} {X : List α} {x : α} : ∀ {n : Nat}, x ∈ repV n X → x ∈ X
  | 0, h => by rw [repV_zero] at h; cases h
  | n + 1, h => by
    rw [repV_succ] at h
    rcases List.mem_append.1 h with h | h
    · exact h
    · exact repV_mem h
theorem repV_flat {α β : Type} (f : α → List β) (X : List α) : ∀ n, (repV n X).flatMap f = repV n (X.flatMap f)
  | 0 => rfl
  | n + 1 => by rw [repV_succ, repV_succ, List.flatMap_append, repV_flat f X n]
theorem opC_one (L : List OpD) : ∀ v ∈ L.flatMap opC, v.oneCell' = true := by
  intro v hv
  obtain ⟨o, _, ho⟩ := List.mem_flatMap.1 hv
  unfold opC at ho
  simp only [List.mem_cons, List.not_mem_nil, or_false] at ho
  rcases ho with rfl | rfl | rfl | rfl | rfl <;> rfl
theorem splice_rep {α : Type} (X R : List α) (j k : Nat) : splice (repV j X ++ R) (j * X.length) (repV k X) = repV (j + k) X ++ R.drop (k * X.length) := by
  have e : (repV j X).length = j * X.length := repV_len X j
  unfold splice
  rw [← e, List.take_left, repV_len X k, List.drop_append, List.drop_eq_nil_of_le (by omega), List.nil_append, show (repV j X).length + k * X.length - (repV j X).length = k * X.length by omega, repV_add X k j, List.append_assoc]
theorem splice_first {α : Type} (X Z : List α) : splice Z 0 X = repV 1 X ++ Z.drop X.length := by
  unfold splice
  rw [List.take_zero, List.nil_append, repV_one, Nat.zero_add]

theorem run_copyN {P : Program} (w : World) (dT sT ty elem : TypeId) (z : Nat) (g o dLen dCap : Nat) (sp : Option Addr) (sLen sCap : Nat) (cur : List Value) (t : TypeId) (cs : List Value) (k : Nat)
    (hu : P.underlying dT = some (.slice elem)) (hs : (P.info? elem).map (·.size) = some z) (hg : w.heap[g]? = some (.cells cur.toArray t (0, 0))) (hk : Nat.min sLen dLen = k) (hl : cs.length = k * z)
    (hsrc : 0 < k → ∃ ad, sp = some ad ∧ ∀ j v, cs[j]? = some v → w.cell? (ad.add j) = some v) (hfit : o + cs.length ≤ cur.length) (h1 : ∀ v ∈ cs, v.oneCell' = true) :
    (Builtin.copy_ #[dT, sT] ty #[.slice (some ⟨g, o, none⟩) dLen dCap, .slice sp sLen sCap]).run P w = .ok (goInt k) (w.setRow g (splice cur o cs).toArray) := by
  have hst := run_storeCells_at P g o t cs 0 cur.toArray w hg (by simpa using hfit) h1
  have hsp : (splice cur o cs).toArray = (cur.toArray.toList.take (o + 0) ++ cs ++ cur.toArray.toList.drop (o + 0 + cs.length)).toArray := by
    unfold splice
    simp
  rw [hsp]
  cases hq : P.info? elem with
  | none => simp [hq] at hs
  | some i =>
    have hi : i.size = z := by simpa [hq] using hs
    by_cases h0 : 0 < k
    · obtain ⟨a, rfl, hc⟩ := hsrc h0
      have hld := run_loadCells_list (P := P) w a cs hc
      rw [hl] at hld
      simp [Builtin.copy_, run_underlying hu, Builtin.lenOf, Builtin.firstCells, sizeOf, typeInfo, hq, hi, hk, hld, hst]
    · obtain rfl : k = 0 := by omega
      have hcs : cs = [] := List.eq_nil_of_length_eq_zero (by omega)
      subst hcs
      cases sp with
      | none => simp [Builtin.copy_, run_underlying hu, Builtin.lenOf, Builtin.firstCells, sizeOf, typeInfo, hq, hk, hst]
      | some a => simp [Builtin.copy_, run_underlying hu, Builtin.lenOf, Builtin.firstCells, sizeOf, typeInfo, hq, hk, hst, loadCells, loadCellsFrom]
theorem wpList_copyN {P : Program} {w : World} {ops : Array Oper} {rest : List Oper} {o : Oper} {a : Act} {Q : Exit → Act → World → Prop} (hgd : o.guard = none) (d s : Operand) (dT sT : TypeId)
    (ho : o.op = .call { callee := .builtin .copy, args := #[d, s], argTypes := #[dT, sT] }) (elem : TypeId) (z : Nat) (hu : P.underlying dT = some (.slice elem)) (hsz : (P.info? elem).map (·.size) = some z)
    (g off dLen dCap : Nat) (sp : Option Addr) (sLen sCap : Nat) (hd : a.eval d = .slice (some ⟨g, off, none⟩) dLen dCap) (hs : a.eval s = .slice sp sLen sCap)
    (cur : List Value) (t : TypeId) (hg : w.heap[g]? = some (.cells cur.toArray t (0, 0))) (cs : List Value) (k : Nat) (hk : Nat.min sLen dLen = k) (hl : cs.length = k * z)
    (hsrc : 0 < k → ∃ ad, sp = some ad ∧ ∀ j v, cs[j]? = some v → w.cell? (ad.add j) = some v) (hfit : off + cs.length ≤ cur.length) (h1 : ∀ v ∈ cs, v.oneCell' = true) (B : Nat) (w0 : World) (hb : Below B w0 w) (hBg : B ≤ g)
    (h : ∀ w', Hid (w'.heap[g]? = some (.cells (splice cur off cs).toArray t (0, 0))) → Below B w0 w' → wpList P ops Q rest (a.put o.dst (goInt k)) w') :
    wpList P ops Q (o :: rest) a w := by
  refine wpList_plain hgd fun K hK => ?_
  have hrun := run_copyN (P := P) w dT sT o.type elem z g off dLen dCap sp sLen sCap cur t cs k hu hsz hg hk hl hsrc hfit h1
  unfold Oper.wp
  simp [execOp, ho, resolve, invoke, builtin, hd, hs, hrun, Result.andThen]
  exact hK _ _ (h _ (show _ = _ from setRow_heap w g _ _ t _ hg) (below_setRow hb hBg _))
theorem step_copyN {P : Program} {ops : Array Oper} {o : Oper} {a : Act} {w : World} {K : Act → World → Prop} {Q : Exit → Act → World → Prop} {E : Prop} (hgd : o.guard = none) (d s : Operand) (dT sT : TypeId)
    (ho : o.op = .call { callee := .builtin .copy, args := #[d, s], argTypes := #[dT, sT] }) (elem : TypeId) (z : Nat) (hu : P.underlying dT = some (.slice elem)) (hsz : (P.info? elem).map (·.size) = some z)
    (g off dLen dCap : Nat) (sp : Option Addr) (sLen sCap : Nat) (hd : a.eval d = .slice (some ⟨g, off, none⟩) dLen dCap) (hs : a.eval s = .slice sp sLen sCap)
    (cur : List Value) (t : TypeId) (hg : w.heap[g]? = some (.cells cur.toArray t (0, 0))) (cs : List Value) (k : Nat) (hk : Nat.min sLen dLen = k) (hl : cs.length = k * z)
    (hsrc : 0 < k → ∃ ad, sp = some ad ∧ ∀ j v, cs[j]? = some v → w.cell? (ad.add j) = some v) (hfit : off + cs.length ≤ cur.length) (h1 : ∀ v ∈ cs, v.oneCell' = true) (B : Nat) (w0 : World) (hb : Below B w0 w) (hBg : B ≤ g)
    (h : ∀ w', Hid (w'.heap[g]? = some (.cells (splice cur off cs).toArray t (0, 0))) → Below B w0 w' → K (a.put o.dst (goInt k)) w') :
    if Region.wanted o (yielded ops a.tmps) = true then Oper.wp P o a w K Q else E := by
  have hw : Region.wanted o (yielded ops a.tmps) = true := by simp [Region.wanted, hgd]
  rw [if_pos hw]
  have hrun := run_copyN (P := P) w dT sT o.type elem z g off dLen dCap sp sLen sCap cur t cs k hu hsz hg hk hl hsrc hfit h1
  unfold Oper.wp
  simp [execOp, ho, resolve, invoke, builtin, hd, hs, hrun, Result.andThen]
  exact h _ (show _ = _ from setRow_heap w g _ _ t _ hg) (below_setRow hb hBg _)
end Go.Proofs.YtlmbcclggaflaaaGreatDoor
namespace Go.Proofs.YtlmbcclggaflaaaGreatDoor
open Go Go.RowKit

def ren39 : Go.Shelf.Ren := ⟨fun | 17 => 120 | 22 => 25 | 29 => 64 | 30 => 65 | 36 => 91 | n => n, fun | 0 => 0 | 3 => 3 | 4 => 4 | 9 => 9 | 24 => 50 | n => n, fun | n => n⟩
theorem lay39 : Go.Proofs.Lays2.n22 Tryz.prog ren39 := {
  mixed := by kernel_rfl
  f17 := Tryz.func120.trans (congrArg some (by kernel_rfl))
  f22 := Tryz.func25.trans (congrArg some (by kernel_rfl))
  f29 := Tryz.func64.trans (congrArg some (by kernel_rfl))
  f30 := Tryz.func65.trans (congrArg some (by kernel_rfl))
  f36 := Tryz.func91.trans (congrArg some (by kernel_rfl))
  t0 := Tryz.underlying0
  a0 := Tryz.isAgg0
  z0 := Tryz.sizeOf0
  v0 := Tryz.zeroValue0
  t3 := Tryz.underlying3
  a3 := Tryz.isAgg3
  z3 := Tryz.sizeOf3
  v3 := Tryz.zeroValue3
  t4 := Tryz.underlying4
  a4 := Tryz.isAgg4
  z4 := Tryz.sizeOf4
  v4 := Tryz.zeroValue4
  t9 := Tryz.underlying9
  a9 := Tryz.isAgg9
  z9 := Tryz.sizeOf9
  v9 := Tryz.zeroValue9
  t24 := Tryz.underlying50
  a24 := Tryz.isAgg50
  z24 := Tryz.sizeOf50
  v24 := Tryz.zeroValue50
  i9 := by kernel_rfl }
theorem splice_nil {α : Type} (cur : List α) (o : Nat) : splice cur o [] = cur := by
  unfold splice
  simp
theorem splice_cons {α : Type} (cur : List α) (o : Nat) (v : α) (r : List α) (h : o + (r.length + 1) ≤ cur.length) : splice (cur.set o v) (o + 1) r = splice cur o (v :: r) := by
  unfold splice
  apply List.ext_getElem?
  intro j
  simp only [List.getElem?_append, List.getElem?_take, List.getElem?_set, List.getElem?_drop, List.length_take, List.length_set, List.length_cons, List.getElem?_cons]
  rcases Nat.lt_trichotomy j o with h1 | h1 | h1
  · have e1 : j < min (o + 1) cur.length := by omega
    have e2 : j < min o cur.length := by omega
    simp [e1, e2, h1, Nat.ne_of_gt h1]
    omega
  · subst h1
    have e1 : j < min (j + 1) cur.length := by omega
    have e2 : ¬ j < min j cur.length := by omega
    have e3 : j - min j cur.length = 0 := by omega
    have e4 : j < cur.length := by omega
    simp [e1, e3, e4]
    omega
  · have e1 : ¬ j < min (o + 1) cur.length := by omega
    have e2 : ¬ j < min o cur.length := by omega
    have e3 : j - min (o + 1) cur.length = j - (o + 1) := by omega
    have e4 : j - min o cur.length = (j - (o + 1)) + 1 := by omega
    rw [if_neg e1, if_neg e2, e3, e4]
    by_cases h5 : j - (o + 1) < r.length
    · have e5 : (j - (o + 1)) + 1 < r.length + 1 := by omega
      simp [h5]
    · have e5 : ¬ (j - (o + 1)) + 1 < r.length + 1 := by omega
      have e6 : o ≠ o + 1 + r.length + (j - (o + 1) - r.length) := by omega
      simp [h5, e6]
      congr 1
      omega
theorem setCells_row (g : Nat) (t : TypeId) : ∀ (vs : List Value) (o : Nat) (cur : List Value) (w : World), w.heap[g]? = some (.cells cur.toArray t (0, 0)) → o + vs.length ≤ cur.length → (w.setCells g o vs).heap[g]? = some (.cells (splice cur o vs).toArray t (0, 0))
  | [], o, cur, w, hg, _ => by rw [World.setCells, splice_nil]; exact hg
  | v :: r, o, cur, w, hg, hl => by
    rw [World.setCells, setCell_eq_setRow w g o cur.toArray t (0, 0) v hg]
    have h1 := setRow_heap w g cur.toArray (cur.toArray.setIfInBounds o v) t (0, 0) hg
    have e : cur.toArray.setIfInBounds o v = (cur.set o v).toArray := by simp
    rw [e] at h1 ⊢
    have h2 := setCells_row g t r (o + 1) (cur.set o v) _ h1 (by simp at hl ⊢; omega)
    rw [splice_cons cur o v r (by simpa using hl)] at h2
    exact h2
theorem below_setCells {B g : Nat} {w0 : World} (hB : B ≤ g) : ∀ (vs : List Value) (o : Nat) (w : World), Below B w0 w → Below B w0 (w.setCells g o vs)
  | [], _, _, h => h
  | v :: r, o, w, h => below_setCells hB r (o + 1) _ (below_set h _ hB o v)
theorem two_splices {α : Type} (cur xs : List α) (x : α) (i : Nat) (hx : cur.take xs.length = xs) (hi : i ≤ xs.length) (hl : xs.length + 1 ≤ cur.length) : (splice (splice cur (i + 1) (xs.drop i)) i [x]).take (xs.length + 1) = xs.take i ++ x :: xs.drop i := by
  have e1 : cur.take i = xs.take i := by rw [← hx, List.take_take]; congr 1; omega
  have e2 : (xs.drop i).length = xs.length - i := List.length_drop
  have e3 : (cur.take (i + 1)).length = i + 1 := by rw [List.length_take]; omega
  have e4 : (xs.take i).length = i := by rw [List.length_take]; omega
  have e5 : splice (splice cur (i + 1) (xs.drop i)) i [x] = xs.take i ++ (x :: (xs.drop i ++ cur.drop (xs.length + 1))) := by
    unfold splice
    have h1 : (cur.take (i + 1) ++ (xs.drop i ++ cur.drop (i + 1 + (xs.drop i).length))).take i = xs.take i := by
      rw [List.take_append_of_le_length (by omega), List.take_take, show min i (i + 1) = i by omega, e1]
    have h2 : (cur.take (i + 1) ++ (xs.drop i ++ cur.drop (i + 1 + (xs.drop i).length))).drop (i + [x].length) = xs.drop i ++ cur.drop (xs.length + 1) := by
      rw [show i + [x].length = (cur.take (i + 1)).length by rw [e3]; rfl, List.drop_left, e2]
      congr 2
      omega
    rw [h1, h2]
    rfl
  rw [e5, List.take_append, e4, List.take_of_length_le (by omega)]
  congr 1
  rw [show xs.length + 1 - i = (xs.length - i) + 1 by omega, List.take_succ_cons]
  congr 1
  rw [List.take_append_of_le_length (by omega), List.take_of_length_le (by omega)]
theorem two_fills {α : Type} (xs Z : List α) (x : α) (i : Nat) (hi : i ≤ xs.length) (hl : xs.length - i + 1 ≤ Z.length) : (splice (splice (xs.take i ++ Z) i [x]) (i + 1) (xs.drop i)).take (xs.length + 1) = xs.take i ++ x :: xs.drop i := by
  have e4 : (xs.take i).length = i := by rw [List.length_take]; omega
  have e2 : (xs.drop i).length = xs.length - i := List.length_drop
  have e5 : splice (xs.take i ++ Z) i [x] = (xs.take i ++ [x]) ++ Z.drop 1 := by
    unfold splice
    have h1 : (xs.take i ++ Z).take i = xs.take i := by rw [List.take_append_of_le_length (by omega), List.take_of_length_le (by omega)]
    have h2 : (xs.take i ++ Z).drop (i + [x].length) = Z.drop 1 := by
      rw [List.drop_append, e4, List.drop_eq_nil_of_le (by simp; omega)]
      simp
    rw [h1, h2, List.append_assoc]
  rw [e5]
  have e6 : (xs.take i ++ [x]).length = i + 1 := by rw [List.length_append, e4]; rfl
  unfold splice
  have h3 : ((xs.take i ++ [x]) ++ Z.drop 1).take (i + 1) = xs.take i ++ [x] := by rw [List.take_append_of_le_length (by omega), List.take_of_length_le (by omega)]
  rw [h3, ← List.append_assoc, List.take_append_of_le_length (by rw [List.length_append, e6, e2]; omega), List.take_of_length_le (by rw [List.length_append, e6, e2]; omega), List.append_assoc]
  rfl
theorem insert_any (g n c i : Nat) (xs : List Value) (x : ByteArray) (vb : Nat) (B : Nat) (w : World)
    (hown : w.ownsRow B 9 1 (.slice (some ⟨g, 0, none⟩) n c) n xs) (h1 : ∀ v ∈ xs, v.oneCell' = true) (hi : i < n) (hn : n ≤ 100000) (hB : B ≤ w.heap.size)
    (hx : w.heap[vb]? = some (.cells #[.string x] 9 (0, 0))) (hne : vb ≠ g) (w0 : World) (hb : Below B w0 w) :
    Calls Tryz.prog 25 #[.slice (some ⟨g, 0, none⟩) n c, .int .i64 (i : Int), .slice (some ⟨vb, 0, none⟩) 1 1] w fun e w' =>
      ∃ g' c', e = .returned (.slice (some ⟨g', 0, none⟩) (n + 1) c') ∧ w'.ownsRow B 9 1 (.slice (some ⟨g', 0, none⟩) (n + 1) c') (n + 1) (xs.take i ++ Value.string x :: xs.drop i) ∧ Below B w0 w' := by
  obtain ⟨hl, hown⟩ := hown
  rw [Nat.mul_one] at hl
  rcases hown with ⟨hv, _⟩ | ⟨g', cap, cur, hv, hBg, hg, hnc, hcm, hcs, htk⟩
  · cases hv
  obtain ⟨rfl, rfl⟩ : g' = g ∧ cap = c := by
    injection hv with e1 _ e2
    injection e1 with e1
    injection e1 with e1
    exact ⟨e1.symm, e2.symm⟩
  clear hv
  rw [Nat.mul_one] at hcs htk
  have hgc : ∀ j, w.cell? ⟨g', j, none⟩ = cur.toList[j]? := fun j => by rw [Lib.cell_of_heap hg]; simp
  have hcl : cur.toList.length = cap := by simpa using hcs
  have hcells : ∀ j v, xs[j]? = some v → w.cell? ⟨g', 0 + j, none⟩ = some v := fun j v hj => by
    rw [Nat.zero_add, hgc, ← hj, ← htk, List.getElem?_take, if_pos (by have := (List.getElem?_eq_some_iff.mp hj).1; omega)]
  have hvc : ∀ j v, [Value.string x][j]? = some v → w.cell? ⟨vb, 0 + j, none⟩ = some v := fun j v hj => by
    rw [Nat.zero_add, Lib.cell_of_heap hx, ← hj]
    simp
  have hv1 : ∀ v ∈ [Value.string x], v.oneCell' = true := fun v hv => by
    rw [List.mem_singleton] at hv
    rw [hv]
    rfl
  have hml : maxLen = 9223372036854775807 := rfl
  have hlen : (xs.take i ++ Value.string x :: xs.drop i).length = n + 1 := by
    rw [List.length_append, List.length_cons, List.length_take, List.length_drop]
    omega
  by_cases hroom : n + 1 ≤ cap
  · have h := Any2.slices_Insert_string_shift lay39 g' 0 n cap i vb 0 1 1 xs [Value.string x] w hi (by decide) hroom (by omega) hne hl rfl hcells
      (fun j hj => by rw [Nat.zero_add, hgc, List.getElem?_eq_getElem (by omega)]; rfl) (fun j _ => Lib.frozen_of_heap hg _) hvc h1 hv1 9 9 1 cap
      (by simp [World.shape?, hx]) (by simp [World.shape?, hg, hcs]) (by omega) (Lib.frozen_of_heap hx _) (Lib.frozen_of_heap hx _)
    refine h.mono ?_
    rintro e w' ⟨rfl, rfl⟩
    refine ⟨g', cap, rfl, ⟨by rw [hlen, Nat.mul_one], Or.inr ⟨g', cap, (splice (splice cur.toList (0 + (i + 1)) (xs.drop i)) (0 + i) [Value.string x]).toArray, rfl, hBg, ?_, hroom, hcm, ?_, ?_⟩⟩, ?_⟩
    · have hg1 : (w.drew).heap[g']? = some (.cells cur.toList.toArray 9 (0, 0)) := by rw [Array.toArray_toList]; exact hg
      have hg2 := setCells_row g' 9 (xs.drop i) (0 + (i + 1)) cur.toList _ hg1 (by rw [List.length_drop]; omega)
      exact setCells_row g' 9 [Value.string x] (0 + i) _ _ hg2 (by rw [length_splice _ _ _ (by rw [List.length_drop]; omega)]; simp; omega)
    · have e1 := length_splice cur.toList (0 + (i + 1)) (xs.drop i) (by rw [List.length_drop]; omega)
      have e2 := length_splice (splice cur.toList (0 + (i + 1)) (xs.drop i)) (0 + i) [Value.string x] (by rw [e1]; simp; omega)
      rw [Nat.mul_one]
      show (splice _ _ _).length = cap
      rw [e2, e1, hcl]
    · rw [Nat.mul_one]
      show (splice _ _ _).take (n + 1) = _
      rw [Nat.zero_add, Nat.zero_add, ← hl]
      exact two_splices cur.toList xs (Value.string x) i (by rw [hl]; exact htk) (by omega) (by omega)
    · exact below_setCells hBg _ _ _ (below_setCells hBg _ _ _ hb.drew)
  · have hcn : cap < n + 1 := by omega
    have h := Any2.slices_Insert_string_grow lay39 g' 0 n cap i vb 0 1 1 xs [Value.string x] w hi (by decide) hnc hcn (by omega) hl rfl hcells hvc h1 hv1
    refine h.mono ?_
    rintro e w' ⟨rfl, rfl⟩
    have hge := grownCap_ge w (n + 1) cap 9
    have hle := grownCap_le_maxLen w (n + 1) cap 9 (by omega)
    show ∃ g' c', Ending.returned (.slice (some ⟨w.heap.size, 0, none⟩) (n + 1) (grownCap w (n + 1) cap 9)) = _ ∧ _
    obtain ⟨G, hG⟩ : ∃ G, grownCap w (n + 1) cap 9 = G := ⟨_, rfl⟩
    have hG2 : grownCap w (n + 1) cap (ren39.t 9) = G := hG
    rw [hG] at hge hle ⊢
    rw [hG2]
    obtain ⟨Z, hZ⟩ : ∃ Z, (Builtin.zeroCells (Value.string ⟨#[]⟩).cells (n + 1 - i) ++ Builtin.zeroCells (Value.string ⟨#[]⟩).cells (G - (n + 1))).toList = Z := ⟨_, rfl⟩
    have hZl : Z.length = (n + 1 - i) + (G - (n + 1)) := by
      rw [← hZ]
      simp [Builtin.zeroCells, Value.cells]
    have hrow : (xs.take i).toArray ++ Builtin.zeroCells (Value.string ⟨#[]⟩).cells (n + 1 - i) ++ Builtin.zeroCells (Value.string ⟨#[]⟩).cells (G - (n + 1)) = (xs.take i ++ Z).toArray := by
      rw [← hZ]
      simp
    rw [hrow]
    have htl : (xs.take i ++ Z).length = G := by
      rw [List.length_append, List.length_take, hZl]
      omega
    have hg1 : ((w.alloc (.cells (xs.take i ++ Z).toArray 9)).drew).heap[w.heap.size]? = some (.cells (xs.take i ++ Z).toArray 9 (0, 0)) := heap_alloc_new w _
    have hg2 := setCells_row w.heap.size 9 [Value.string x] i _ _ hg1 (by rw [htl]; simp; omega)
    have e1 := length_splice (xs.take i ++ Z) i [Value.string x] (by rw [htl]; simp; omega)
    have hg3 := setCells_row w.heap.size 9 (xs.drop i) (i + 1) _ (((w.alloc (.cells (xs.take i ++ Z).toArray 9)).drew.setCells w.heap.size i [Value.string x]).drew) hg2 (by rw [e1, htl, List.length_drop]; omega)
    have e2 := length_splice (splice (xs.take i ++ Z) i [Value.string x]) (i + 1) (xs.drop i) (by rw [e1, htl, List.length_drop]; omega)
    refine ⟨w.heap.size, G, rfl, ⟨by rw [hlen, Nat.mul_one], Or.inr ⟨w.heap.size, G, _, rfl, hB, hg3, hge, hle, ?_, ?_⟩⟩, ?_⟩
    · rw [Nat.mul_one]
      show (splice _ _ _).length = G
      rw [e2, e1, htl]
    · rw [Nat.mul_one]
      show (splice _ _ _).take (n + 1) = _
      rw [← hl]
      exact two_fills xs Z (Value.string x) i (by omega) (by rw [hZl]; omega)
    · exact below_setCells hB _ _ _ (below_setCells hB _ _ _ (hb.alloc hB _).drew).drew
end Go.Proofs.YtlmbcclggaflaaaGreatDoor
namespace Go.Proofs.YtlmbcclggaflaaaGreatDoor
open Go Go.RowKit

/-- Lines one behind the other, each with its line feed. -/
def flatL (X : List (List UInt8)) : List UInt8 := X.flatMap fun x => x ++ [10]
theorem flat_cons (x : List UInt8) (X : List (List UInt8)) : flatL (x :: X) = x ++ 10 :: flatL X := by
  unfold flatL
  simp
theorem flat_append (X Y : List (List UInt8)) : flatL (X ++ Y) = flatL X ++ flatL Y := by
  unfold flatL
  rw [List.flatMap_append]
theorem flat_ops (L : List OpD) : flatL (L.map opT) = paL L := by
  unfold flatL paL
  rw [List.flatMap_map]
theorem pc_flat : ∀ (X : List (List UInt8)) (r : List UInt8), (∀ x ∈ X, (10 : UInt8) ∉ x) → pc 10 (flatL X ++ r) = X ++ pc 10 r
  | [], _, _ => rfl
  | x :: X, r, h => by
    rw [flat_cons, List.append_assoc, List.cons_append, pc_app _ _ (h x (by simp)), pc_flat X r fun y hy => h y (by simp [hy])]
    rfl
theorem count_flat : ∀ (X : List (List UInt8)), (∀ x ∈ X, (10 : UInt8) ∉ x) → (flatL X).count 10 = X.length
  | [], _ => rfl
  | x :: X, h => by
    rw [flat_cons, List.count_append, List.count_eq_zero.2 (h x (by simp)), List.count_cons, count_flat X fun y hy => h y (by simp [hy])]
    simp
theorem count_len (X : List (List UInt8)) : X.length ≤ (flatL X).length := by
  induction X with
  | nil => exact Nat.zero_le _
  | cons x X ih =>
    rw [flat_cons]
    simp only [List.length_cons, List.length_append]
    omega
theorem splitK_flat : ∀ (X : List (List UInt8)), (∀ x ∈ X, (10 : UInt8) ∉ x) → Lib.splitK [10] 1 (Lib.count (flatL X) [10]) (flatL X) = X.map (fun x => x ++ [10]) ++ [[]] ∧ Lib.count (flatL X) [10] = X.length
  | [], _ => by
    have h0 : (10 : UInt8) ∉ flatL [] := by simp [flatL]
    rw [Lib.count_miss (idx_miss _ h0)]
    exact ⟨rfl, rfl⟩
  | x :: X, h => by
    obtain ⟨h1, h2⟩ := splitK_flat X fun y hy => h y (by simp [hy])
    have hn := h x (by simp)
    have hi := idx_hit x (flatL X) hn
    rw [flat_cons, Lib.count_hit (by simp) hi]
    have ed : (x ++ 10 :: flatL X).drop (x.length + 1) = flatL X := by simp
    have et : (x ++ 10 :: flatL X).take (((x.length : Nat) : Int).toNat + 1) = x ++ [10] := by
      rw [Int.toNat_natCast, List.take_append, List.take_of_length_le (by omega)]
      simp
    have e3 : ([10] : List UInt8).length = 1 := rfl
    rw [e3, ed, h2]
    refine ⟨?_, by rw [List.length_cons]; omega⟩
    rw [Nat.add_comm, Lib.splitK, hi]
    have : ¬ (((x.length : Int) == -1) = true) := by rw [beq_iff_eq]; omega
    rw [if_neg this, et, e3, Int.toNat_natCast, ed, ← h2, h1]
    rfl
/-- The lines as the slice holds them. -/
def linesW (X : List (List UInt8)) : List ByteArray := X.map (fun x => pack (x ++ [10])) ++ [pack []]
theorem linesW_len (X : List (List UInt8)) : (linesW X).length = X.length + 1 := by simp [linesW]
theorem linesW_data (X : List (List UInt8)) : (linesW X).map (·.data.toList) = X.map (fun x => x ++ [10]) ++ [[]] := by
  unfold linesW
  rw [List.map_append, List.map_map]
  congr 1
theorem splitB_flat (X : List (List UInt8)) (h : ∀ x ∈ X, (10 : UInt8) ∉ x) : Lib.splitB ⟨#[10]⟩ 1 (Lib.countB (pack (flatL X)) ⟨#[10]⟩) (pack (flatL X)) = linesW X ∧ Lib.countB (pack (flatL X)) ⟨#[10]⟩ = X.length := by
  obtain ⟨h1, h2⟩ := splitK_flat X h
  have hc : Lib.countB (pack (flatL X)) ⟨#[10]⟩ = Lib.count (flatL X) [10] := by
    show Lib.count (pack (flatL X)).data.toList _ = _
    rw [pack_data]
  refine ⟨?_, hc.trans h2⟩
  have e : (Lib.splitB ⟨#[10]⟩ 1 (Lib.countB (pack (flatL X)) ⟨#[10]⟩) (pack (flatL X))).map (·.data.toList) = (linesW X).map (·.data.toList) := by
    rw [Lib.splitB_data, hc, linesW_data, pack_data]
    exact h1
  have inj : ∀ (A B : List ByteArray), A.map (·.data.toList) = B.map (·.data.toList) → A = B := by
    intro A
    induction A with
    | nil => intro B hB; cases B with
      | nil => rfl
      | cons b B => simp at hB
    | cons a A ih => intro B hB; cases B with
      | nil => simp at hB
      | cons b B =>
        rw [List.map_cons, List.map_cons] at hB
        injection hB with e1 e2
        rw [ih B e2, ← data_pack a, ← data_pack b, e1]
  exact inj _ _ e
theorem joinEmpty : ∀ (W : List (List UInt8)), Lib.join W [] = W.flatten
  | [] => rfl
  | [x] => by rw [Lib.join_one]; simp
  | x :: y :: t => by
    have := joinEmpty (y :: t)
    rw [Lib.join_cons]
    unfold Lib.joinTail
    simp
theorem linesW_join (X : List (List UInt8)) : Lib.join ((linesW X).map (·.data.toList)) [] = flatL X := by
  rw [linesW_data, joinEmpty, List.flatten_append]
  unfold flatL
  rw [List.flatMap_def]
  simp
/-- Without the last line feed the same is read. -/
theorem trim_read : ∀ (X : List (List UInt8)), (∀ x ∈ X, (10 : UInt8) ∉ x) → rdL (pc 10 (Lib.trimSuffix (flatL X) [10])) 0 [] = rdL X 0 [] := by
  intro X h
  rcases List.eq_nil_or_concat X with rfl | ⟨Y, y, rfl⟩
  · show rdL [[]] 0 [] = rdL [] 0 []
    rw [rd_skip (by decide), rd_nil, rd_nil]
  · rw [List.concat_eq_append] at h ⊢
    have e1 : flatL (Y ++ [y]) = (flatL Y ++ y) ++ [10] := by
      rw [flat_append, flat_cons]
      simp [flatL]
    have e2 : Lib.trimSuffix (flatL (Y ++ [y])) [10] = flatL Y ++ y := by
      unfold Lib.trimSuffix
      rw [e1, if_pos (by
        unfold Lib.hasSuffix
        rw [List.isSuffixOf_iff_suffix]
        exact List.suffix_append _ _)]
      have e3 : ((flatL Y ++ y) ++ [10]).length - ([10] : List UInt8).length = (flatL Y ++ y).length := by simp
      rw [e3, List.take_left]
    rw [e2, pc_flat Y y fun x hx => h x (by simp [hx]), pc_word y (h y (by simp))]
theorem trim_len (X : List (List UInt8)) : (Lib.trimSuffix (flatL X) [10]).length ≤ (flatL X).length := by
  unfold Lib.trimSuffix
  split
  · rw [List.length_take]
    omega
  · exact Nat.le_refl _
theorem rdA_lines {X : List (List UInt8)} {L : List OpD} (hX : ∀ x ∈ X, (10 : UInt8) ∉ x) (hL : LinesOf X L) (hl : L.length ≤ 2000) (hz : (flatL X).length ≤ 65536) {s : ByteArray} (hs : s.data.toList = Lib.trimSuffix (flatL X) [10]) : rdA s = (L, 0, 0) := by
  have h1 := trim_len X
  unfold rdA
  rw [← str_len, hs, if_neg (by omega), trim_read X hX]
  have h2 := rd_lines X L [] 0 [] hL (by simpa using hl)
  rw [List.append_nil] at h2
  rw [h2, rd_nil]
  rfl
/-- The lines that are inserted. -/
def moreB : List (List UInt8) := [[], [35], [35, 32, 115, 121, 110, 99], [35, 115, 116, 101, 112]]
theorem more_mem {n : Nat} (h : n < 4) : moreB.getD n [] ∈ moreB := by
  have hl : moreB.length = 4 := rfl
  rw [List.getD, List.getElem?_eq_getElem (by omega)]
  exact List.getElem_mem _
theorem more_len : ∀ x ∈ moreB, x.length ≤ 6 := by decide
theorem more_no10 : ∀ x ∈ moreB, (10 : UInt8) ∉ x := by decide
theorem more_skip : ∀ x ∈ moreB, skipL x = true := by decide
/-- What stands behind some insertions. -/
structure LinesSt (L : List OpD) (k : Nat) (X : List (List UInt8)) : Prop where
  lines : LinesOf X L
  no10 : ∀ x ∈ X, (10 : UInt8) ∉ x
  len : X.length ≤ 60 + k
  size : (flatL X).length ≤ 60060 + 7 * k
theorem LinesSt.start (L : List NumD) : LinesSt (scriptL L) 0 ((scriptL L).map opT) := by
  refine ⟨lines_ops _ (script_good L), fun x hx => ?_, by rw [List.length_map, script_len]; omega, by rw [flat_ops]; have := script_short L; omega⟩
  obtain ⟨o, ho, rfl⟩ := List.mem_map.1 hx
  exact opT_no10 (script_good L o ho)
theorem LinesSt.step {L : List OpD} {k : Nat} {X : List (List UInt8)} (h : LinesSt L k X) (i n : Nat) (hn : n < 4) : LinesSt L (k + 1) (X.take i ++ moreB.getD n [] :: X.drop i) := by
  have hm := more_mem hn
  have h6 := more_len _ hm
  have e0 : X.take i ++ X.drop i = X := List.take_append_drop i X
  refine ⟨lines_insert (X.take i) (X.drop i) _ L (by rw [e0]; exact h.lines) (more_skip _ hm), fun x hx => ?_, ?_, ?_⟩
  · rcases List.mem_append.1 hx with hx | hx
    · exact h.no10 x (List.mem_of_mem_take hx)
    · rcases List.mem_cons.1 hx with rfl | hx
      · exact more_no10 _ hm
      · exact h.no10 x (List.mem_of_mem_drop hx)
  · have e1 : (X.take i).length + (X.drop i).length = X.length := by rw [← List.length_append, e0]
    have := h.len
    simp only [List.length_append, List.length_cons]
    omega
  · have e1 : (flatL (X.take i)).length + (flatL (X.drop i)).length = (flatL X).length := by rw [← List.length_append, ← flat_append, e0]
    have := h.size
    rw [flat_append, flat_cons]
    simp only [List.length_append, List.length_cons]
    omega
theorem linesW_insert (X : List (List UInt8)) (i : Nat) (y : List UInt8) (hi : i ≤ X.length) : (strCellsL (linesW X)).take i ++ Value.string (pack (y ++ [10])) :: (strCellsL (linesW X)).drop i = strCellsL (linesW (X.take i ++ y :: X.drop i)) := by
  unfold strCellsL linesW
  have hl : (X.map (fun x => pack (x ++ [10]))).length = X.length := List.length_map _
  rw [← List.map_take, ← List.map_drop, List.take_append_of_le_length (by omega), List.drop_append_of_le_length (by omega), List.map_append, List.map_cons, ← List.map_take, ← List.map_drop]
  simp
theorem strCells_one (W : List ByteArray) : ∀ v ∈ strCellsL W, v.oneCell' = true := by
  intro v hv
  obtain ⟨x, _, rfl⟩ := List.mem_map.1 hv
  rfl
/-- What SplitAfter gives for lines. -/
theorem splitAfter_any (X : List (List UInt8)) (hX : ∀ x ∈ X, (10 : UInt8) ∉ x) (hz : (flatL X).length ≤ 100000) (m : Int) (w : World) (hm : w.cell? ⟨0, 0, none⟩ = some (.int .i64 m)) :
    Calls Tryz.prog 24 #[.string (pack (flatL X)), .string ⟨#[10]⟩] w fun e w' => ∃ g c, e = .returned (.slice (some ⟨g, 0, none⟩) (X.length + 1) c) ∧ w'.ownsRow w.heap.size 9 1 (.slice (some ⟨g, 0, none⟩) (X.length + 1) c) (X.length + 1) (strCellsL (linesW X)) ∧ Below w.heap.size w w' := by
  obtain ⟨h1, h2⟩ := splitB_flat X hX
  have hsz : (pack (flatL X)).size = (flatL X).length := pack_size _
  have hcl := count_len X
  have hgen := Tryz.strings_genSplit (pack (flatL X)) ⟨#[10]⟩ 1 (-1) (X.length + 1) m w (by omega) hm (by decide) (by decide) (by decide) (by decide) (by rw [if_pos (by decide), h2]; omega)
  rw [show X.length + 1 - 1 = Lib.countB (pack (flatL X)) ⟨#[10]⟩ by rw [h2]; rfl, h1, linesW_len] at hgen
  have HG := Lib.hid hgen
  clear hgen h1 h2 hsz hcl
  go_enter Tryz.func24, Tryz.ntmps24
  go_wp2_with fail
  refine HG.out.mono ?_
  rintro e w1 ⟨rfl, rfl⟩
  have hrow : Lib.cellsOf (linesW X) (X.length + 1) = (strCellsL (linesW X)).toArray := by
    unfold Lib.cellsOf strCellsL
    rw [linesW_len, Nat.sub_self]
    simp
  rw [hrow]
  have hl : (strCellsL (linesW X)).length = X.length + 1 := by unfold strCellsL; rw [List.length_map, linesW_len]
  have HO : Hid ((w.alloc (.cells (strCellsL (linesW X)).toArray 9)).ownsRow w.heap.size 9 1 (.slice (some ⟨w.heap.size, 0, none⟩) (X.length + 1) (X.length + 1)) (X.length + 1) (strCellsL (linesW X))) := by
    have hl2 := count_len X
    have hml : maxLen = 9223372036854775807 := rfl
    refine ⟨by rw [hl, Nat.mul_one], Or.inr ⟨w.heap.size, X.length + 1, _, rfl, Nat.le_refl _, heap_alloc_new w _, Nat.le_refl _, by omega, by rw [Nat.mul_one]; simpa using hl, ?_⟩⟩
    rw [Nat.mul_one]
    show (strCellsL (linesW X)).take _ = _
    rw [List.take_of_length_le (by omega)]
  have c1 := Lib.hid ((Below.refl w.heap.size w).alloc (Nat.le_refl _) (.cells (strCellsL (linesW X)).toArray 9))
  clear hrow hl
  go_wp2_with fail
  go_ret
  exact ⟨_, _, rfl, HO.out, c1.out⟩
end Go.Proofs.YtlmbcclggaflaaaGreatDoor
namespace Go.Proofs.YtlmbcclggaflaaaGreatDoor
open Go Go.RowKit

theorem script_fitS (L : List NumD) : ∀ o ∈ scriptL L, opFit o := by
  intro o ho
  obtain ⟨d, _, rfl⟩ := List.mem_map.1 ho
  obtain ⟨k, a, b, x, v, e, _, hf⟩ := made_op d.K d.Y d.Q d.T (d.l.take 40)
  show opFit (madeO _ _ _ _ _)
  rw [e]
  exact hf
theorem own_lt {w : World} {B g n c : Nat} {e : TypeId} {xs : List Value} (h : w.ownsRow B e 1 (.slice (some ⟨g, 0, none⟩) n c) n xs) : g < w.heap.size := by
  rcases h.2 with ⟨hv, _⟩ | ⟨g', cap, cur, hv, _, hg, _⟩
  · cases hv
  · injection hv with e1
    injection e1 with e1
    injection e1 with e1
    subst e1
    exact (Array.getElem?_eq_some_iff.1 hg).1
theorem more_cell (w : World) (i : Nat) (hi : i < 4) (t : TypeId) : (w.alloc (.cells #[.string ⟨#[10]⟩, .string ⟨#[35, 10]⟩, .string ⟨#[35, 32, 115, 121, 110, 99, 10]⟩, .string ⟨#[35, 115, 116, 101, 112, 10]⟩] t)).cell? ⟨w.heap.size, i, none⟩ = some (.string (pack (moreB.getD i [] ++ [10]))) := by
  rcases (show i = 0 ∨ i = 1 ∨ i = 2 ∨ i = 3 by omega) with rfl | rfl | rfl | rfl
  · exact new_cell _ _ 0 _ rfl
  · exact new_cell _ _ 1 _ rfl
  · exact new_cell _ _ 2 _ rfl
  · exact new_cell _ _ 3 _ rfl
set_option maxRecDepth 100000 in
set_option maxHeartbeats 8000000 in
theorem walkOpScripts (v : Value) (NL : List NumD) (u : Value) (l : List UInt8) (m : Int) (w : World) (hv : NumsAt w v NL) (hu : BytesAt w u l) (ht : Tab w) (he : Errs w) (hm : w.cell? ⟨0, 0, none⟩ = some (.int .i64 m)) :
    Calls Tryz.prog 4 #[v, u] w fun e w' => e = .returned (.bool true) ∧ Below w.heap.size w w' := by
  have HE : Hid (Env m w) := ⟨ht, he, hm⟩
  have HV := Lib.hid hv
  clear ht he hm hv
  obtain ⟨pu, nu, cu, M, l2, rfl, hn, hmin, hm3, hmn, hl2t, hl2, hv2, hcut⟩ := cut_bytes hu 20
  have hmin2 : min (nu : Int) 20 = (M : Int) := hmin
  have HB := Lib.hid hv2
  have HM := Lib.hid (show M ≤ 20 from hm3)
  have HL2 := Lib.hid hl2
  clear hn hmin hm3 hmn hl2t hl2 hv2 hu
  obtain ⟨L, hL⟩ : ∃ L, scriptL NL = L := ⟨_, rfl⟩
  have h0 := LinesSt.start NL
  have hfit := script_fitS NL
  have hgood := script_good NL
  have hsh := script_short NL
  have hlen : (scriptL NL).length ≤ 60 := by rw [script_len]; omega
  have hscr := script_any v NL w HV.out HE.out.1
  rw [hL] at h0 hfit hgood hsh hlen hscr
  obtain ⟨X, hX⟩ : ∃ X, pack (paL L) = X := ⟨_, rfl⟩
  obtain ⟨e1, e2⟩ := pa_good (L := L) hgood (by omega) (by omega)
  rw [hX] at e2
  have hXs : X.size ≤ 60060 := by rw [← hX, pack_size]; exact hsh
  have hrd : rdA X = (L, 0, 0) := rdA_script (by rw [← hX, pack_data]) hgood (by omega) (by omega)
  have hX0 : pack (flatL (L.map opT)) = X := by rw [flat_ops]; exact hX
  have hcnt : Lib.countByte X.data.toList 10 = L.length := by
    rw [← hX0, pack_data]
    show (flatL _).count 10 = _
    rw [count_flat _ h0.no10, List.length_map]
  have hsa := fun (mm : Int) (wx : World) => splitAfter_any (L.map opT) h0.no10 (by have := h0.size; omega) mm wx
  rw [hX0, List.length_map] at hsa
  have h00 : (L.map opT).length = L.length := List.length_map _
  obtain ⟨N, hN⟩ : ∃ N, L.length = N := ⟨_, rfl⟩
  rw [hN] at hcnt hsa hlen h00
  have HSCR := Lib.hid hscr
  have HPA := Lib.hid (And.intro e1 e2)
  have HFIT := Lib.hid hfit
  have HXS := Lib.hid hXs
  have HRD := Lib.hid hrd
  have HCNT := Lib.hid hcnt
  have HSA := Lib.hid hsa
  have HN := Lib.hid (And.intro hN (And.intro hlen h00))
  have HST := Lib.hid h0
  have d6 : ((N : Int) != (N : Int)) = false := by rw [bne_eq_false_iff_eq]
  clear hL h0 hfit hgood hsh hlen hscr hX e1 e2 hXs hrd hX0 hcnt hsa hN h00 HV
  go_enter Tryz.func4, Tryz.ntmps4
  go_wp2_with fail
  refine HSCR.out.mono ?_
  rintro e w1 ⟨v1, rfl, h1, b1⟩
  obtain ⟨p1, n1, rfl⟩ := ownsRow_slice h1
  have HA1 := Lib.hid (OpsNew.at h1)
  have c1 := Lib.hid b1
  clear h1 b1 HSCR
  go_wp2_with fail
  refine (printAll_any _ L HFIT.out (by have := HN.out.1; have := HN.out.2.1; omega) m _ (HE.out.below c1.out) HA1.out).mono ?_
  rw [HPA.out.1, HPA.out.2]
  rintro e w2 ⟨rfl, b1⟩
  have c2 := Lib.hid (c1.out.trans (b1.mono c1.out.size))
  clear c1
  have c1 := Lib.hid c2.out
  clear c2
  have hh := Lib.hid (HA1.out.below b1)
  clear HA1
  have HA1 := Lib.hid hh.out
  clear hh
  clear b1
  go_wp2_with fail
  refine (parseAll_is X (by have := HXS.out; omega) L 0 0 HRD.out m _ (HE.out.below c1.out)).mono ?_
  rintro e w3 ⟨⟨p3, n3, rfl, h3⟩, b1⟩
  have HA3 := Lib.hid (OpsNew.at h3)
  have c2 := Lib.hid (c1.out.trans (b1.mono c1.out.size))
  clear c1
  have c1 := Lib.hid c2.out
  clear c2
  have hh := Lib.hid (HA1.out.below b1)
  clear HA1
  have HA1 := Lib.hid hh.out
  clear hh
  clear b1 h3 HRD HPA
  go_wp2_with fail
  refine (equalOps_any _ _ L L _ HA3.out HA1.out (by have := HN.out.1; have := HN.out.2.1; omega)).mono ?_
  rw [decide_eq_true rfl]
  rintro e w4 ⟨rfl, b1⟩
  have c2 := Lib.hid (c1.out.trans (b1.mono c1.out.size))
  clear c1
  have c1 := Lib.hid c2.out
  clear c2
  have hh := Lib.hid (HA1.out.below b1)
  clear HA1
  have HA1 := Lib.hid hh.out
  clear hh
  clear b1 HA3
  go_wp2_with fail
  refine (Tryz.strings_Count_one X 10 _).mono ?_
  rw [HCNT.out]
  rintro e w5 ⟨rfl, rfl⟩
  rw [HN.out.1]
  have HA1' : Hid (OpsAt w5 (.slice p1 N n1) L) := by
    have h := HA1.out
    rw [HN.out.1] at h
    exact h
  clear HA1
  have HA1 := Lib.hid HA1'.out
  clear HA1'
  go_wp2_with fail
  refine (HSA.out m _ (HE.out.below c1.out).2.2).mono ?_
  rintro e w6 ⟨g6, c6, rfl, h6, b6⟩
  have H6 := Lib.hid h6
  have B6 := Lib.hid b6
  clear h6 b6 HSA
  go_wp2_with fail
  go_loopw [11, 60] (fun v11 s60 wr => ∃ (i n : Nat) (Y : List (List UInt8)) (g c : Nat), i ≤ M ∧ s60 = .int .i64 i ∧ v11 = .slice (some ⟨g, 0, none⟩) n c ∧ Hid (Y.length + 1 = n) ∧ Hid (LinesSt L i Y) ∧ Hid (wr.ownsRow w5.heap.size 9 1 (.slice (some ⟨g, 0, none⟩) n c) n (strCellsL (linesW Y))) ∧ Hid (Below w5.heap.size w5 wr)) (fun _ s60 _ => M - (intOf s60).toNat)
  case atStart => exact ⟨0, N + 1, L.map opT, g6, c6, Nat.zero_le _, rfl, rfl, by show _ = _; rw [HN.out.2.2], HST, H6, B6⟩
  case round =>
    clear H6 B6 HST
    obtain ⟨i, n, Y, g, c, hi, rfl, rfl, hY, hst, hown, hB⟩ := hrel
    by_cases hlt : i < M
    · obtain ⟨pb, cb, hpe, hcb, hcell⟩ := HB.out
      rw [HL2.out] at hpe hcell
      injection hpe with e1 _ e2
      subst e1 e2
      obtain ⟨bb, oo, rfl, hci⟩ := hcell (by omega)
      have hcw := c1.out.trans (hB.out.mono c1.out.size)
      have hkc := cell_kept (hci i hlt) hcw
      obtain ⟨K, hK⟩ : ∃ K, (l2.getD i 0).toNat = K := ⟨_, rfl⟩
      have hK256 : K < 256 := by rw [← hK]; exact (l2.getD i 0).toNat_lt
      rw [hK] at hkc
      obtain ⟨j, hj⟩ : ∃ j, K % 4 = j := ⟨_, rfl⟩
      have hj4 : j < 4 := by omega
      obtain ⟨q, hq⟩ : ∃ q, K % n = q := ⟨_, rfl⟩
      have hn0 : 0 < n := by have := hY.out; omega
      have hqn : q < n := by rw [← hq]; exact Nat.mod_lt K hn0
      have hmod1 : ((K : Int) % 4) = (j : Int) := by rw [← hj]; simp
      have hmod2 : ((K : Int) % (n : Int)) = (q : Int) := by rw [← hq]; simp
      have hne1 : (n : Int) ≠ 0 := by omega
      have hw8 : IntKind.i64.wrap (K : Int) = (K : Int) := IntWalk.i64_in _ (by omega)
      have hsum : IntKind.i64.wrap ((i : Int) + 1) = (i : Int) + 1 := IntWalk.i64_in _ (by have := HM.out; omega)
      have hmc := more_cell wr j hj4 9
      obtain ⟨T, hT⟩ : ∃ T, pack (moreB.getD j [] ++ [10]) = T := ⟨_, rfl⟩
      rw [hT] at hmc
      have a1 := (Below.refl wr.heap.size wr).alloc (Nat.le_refl _) (.cells #[.string ⟨#[10]⟩, .string ⟨#[35, 10]⟩, .string ⟨#[35, 32, 115, 121, 110, 99, 10]⟩, .string ⟨#[35, 115, 116, 101, 112, 10]⟩] 9)
      have HT := Lib.hid hT
      have HJ := Lib.hid (And.intro hj4 hqn)
      have HCW := Lib.hid hcw
      clear hci hcell hK hj hq hT hcw hcb
      go_upto_region 11 with fail
      have HO2 := Lib.hid (own_below hown.out a1)
      have HB2 := Lib.hid (hB.out.trans (a1.mono hB.out.size))
      have HGL := Lib.hid (own_lt hown.out)
      clear hown hB a1 hmc hkc
      have hws : (wr.alloc (.cells #[.string ⟨#[10]⟩, .string ⟨#[35, 10]⟩, .string ⟨#[35, 32, 115, 121, 110, 99, 10]⟩, .string ⟨#[35, 115, 116, 101, 112, 10]⟩] 9)).heap.size = wr.heap.size + 1 := by simp
      have HWS := Lib.hid hws
      generalize (wr.alloc (.cells #[.string ⟨#[10]⟩, .string ⟨#[35, 10]⟩, .string ⟨#[35, 32, 115, 121, 110, 99, 10]⟩, .string ⟨#[35, 115, 116, 101, 112, 10]⟩] 9)) = w7 at *
      clear hws
      go_wp2_with fail
      have HX8 : Hid ((w7.alloc (.cells #[.string T] 9)).heap[w7.heap.size]? = some (.cells #[.string T] 9 (0, 0))) := heap_alloc_new w7 _
      have a2 := (Below.refl w7.heap.size w7).alloc (Nat.le_refl _) (.cells #[.string T] 9)
      have HO3 := Lib.hid (own_below HO2.out a2)
      have HB3 := Lib.hid (HB2.out.trans (a2.mono HB2.out.size))
      refine (insert_any g n c q (strCellsL (linesW Y)) T w7.heap.size w5.heap.size _ HO3.out (strCells_one _) HJ.out.2 (by have := hY.out; have := hst.out.len; have := HM.out; omega) HB3.out.size HX8.out (by have h1 := HGL.out; have h2 := HWS.out; omega) w5 HB3.out).mono ?_
      rintro e w8 ⟨g', c', rfl, h8, b8⟩
      have hst2 := hst.out.step q j HJ.out.1
      rw [← HT.out, linesW_insert Y q _ (by have := hY.out; have := HJ.out.2; omega)] at h8
      have hl8 : (Y.take q ++ moreB.getD j [] :: Y.drop q).length + 1 = n + 1 := by
        have h1 := hY.out
        have h2 := HJ.out.2
        simp only [List.length_append, List.length_cons, List.length_take, List.length_drop]
        omega
      have HL8 := Lib.hid hl8
      have HS8 := Lib.hid hst2
      have H8 := Lib.hid h8
      have B8 := Lib.hid b8
      clear h8 b8 hst2 hl8 a2 HO2 HB2 HO3 HB3 HX8 HGL HWS hmod1 hmod2 hne1 hw8
      go_wp2_with fail
      go_roundw
      case rel => exact ⟨i + 1, n + 1, _, g', c', by omega, by go_num, rfl, HL8, HS8, H8, B8⟩
      case measure => simp [intOf]; omega
    · obtain rfl : i = M := by omega
      clear hlt hi
      have hcw := Lib.hid (c1.out.trans (hB.out.mono c1.out.size))
      have HA2 := Lib.hid (HA1.out.below hB.out)
      clear c1 hB HA1
      have c1 := Lib.hid hcw.out
      clear hcw
      go_wp2_with fail
      have hz := hst.out.size
      refine (join_is (linesW Y) n (by rw [linesW_len]; exact hY.out) (pack (flatL Y)) ⟨#[]⟩ (by rw [pack_data]; exact linesW_join Y) (by rw [pack_size]; have := HM.out; omega) (by have := hY.out; have := hst.out.len; have := HM.out; omega) w5.heap.size g c _ hown.out (by have := hY.out; omega)).mono ?_
      rintro e w9 ⟨rfl, b1⟩
      have c2 := Lib.hid (c1.out.trans (b1.mono c1.out.size))
      clear c1
      have c1 := Lib.hid c2.out
      clear c2
      have hh := Lib.hid (HA2.out.below b1)
      clear HA2
      have HA2 := Lib.hid hh.out
      clear hh
      clear b1 hown
      go_wp2_with fail
      refine (Tryz.strings_TrimSuffix (pack (flatL Y)) ⟨#[10]⟩ _ (by rw [pack_size]; have := HM.out; omega)).mono ?_
      rintro e w10 ⟨rfl, rfl⟩
      obtain ⟨S, hS⟩ : ∃ S : ByteArray, (⟨(Lib.trimSuffix (pack (flatL Y)).data.toList (⟨#[10]⟩ : ByteArray).data.toList).toArray⟩ : ByteArray) = S := ⟨_, rfl⟩
      have hSd : S.data.toList = Lib.trimSuffix (flatL Y) [10] := by
        rw [← hS, pack_data]
      have hSs : S.size ≤ 100000 := by
        have h1 := trim_len Y
        have h2 := HM.out
        rw [← str_len, hSd]
        omega
      have hread : rdA S = (L, 0, 0) := rdA_lines hst.out.no10 hst.out.lines (by have := HN.out.1; have := HN.out.2.1; omega) (by have := HM.out; omega) hSd
      rw [hS]
      have HSS := Lib.hid hSs
      have HRD := Lib.hid hread
      clear hS hSd hSs hread hz hst hY
      go_wp2_with fail
      refine (parseAll_is S HSS.out L 0 0 HRD.out m _ (HE.out.below c1.out)).mono ?_
      rintro e w11 ⟨⟨p11, n11, rfl, h11⟩, b1⟩
      have HA3 := Lib.hid (OpsNew.at h11)
      have c2 := Lib.hid (c1.out.trans (b1.mono c1.out.size))
      clear c1
      have c1 := Lib.hid c2.out
      clear c2
      have hh := Lib.hid (HA2.out.below b1)
      clear HA2
      have HA2 := Lib.hid hh.out
      clear hh
      clear b1 h11 HRD HSS
      go_wp2_with fail
      refine (equalOps_any _ _ L L _ HA3.out HA2.out (by have := HN.out.1; have := HN.out.2.1; omega)).mono ?_
      rw [decide_eq_true rfl]
      rintro e w12 ⟨rfl, b1⟩
      have c2 := Lib.hid (c1.out.trans (b1.mono c1.out.size))
      clear c1
      have c1 := Lib.hid c2.out
      clear c2
      clear b1 HA3 HA2
      go_wp2_with fail
      refine (works39_any m _ (HE.out.below c1.out)).mono ?_
      rintro e w13 ⟨rfl, b1⟩
      have c2 := Lib.hid (c1.out.trans (b1.mono c1.out.size))
      clear c1
      have c1 := Lib.hid c2.out
      clear c2
      clear b1
      go_wp2_with fail
      go_ret
      exact ⟨rfl, c1.out⟩
end Go.Proofs.YtlmbcclggaflaaaGreatDoor
namespace Go.Proofs.YtlmbcclggaflaaaGreatDoor.lawOpScripts
open Go Go.RowKit Go.ChangeShapes Go.WideShapes Go.ChangeAt
open Go.ChangeMaps (open_string shut_string)

set_option maxRecDepth 100000 in
theorem contract (H : Type) (enc : TypeId × Value → H) (W : World) (base : Nat) (args : Array Value) (ds gs : List (DataW H)) (before : List MemPlace)
    (hval : ∀ (j : Nat) t v, Tryz.f4.params[j]? = some t → args[j]? = some v → Value.okWide Tryz.prog W .any base t v)
    (hW : DataW.Whole enc Tryz.prog Tryz.f4.params.toList Rows.opScriptsSpec.vars false W args.toList ds gs before) (hL : laidMetH Tryz.prog Rows.opScriptsRow.laid W) (hR : (DataW.weightsEach Tryz.prog (Tryz.f4.params.toList ++ (OpenSpec.ofChange Rows.opScriptsSpec).bare.plain.varTypes Tryz.prog) (ds ++ gs)).all (· ≤ reachBytes) = true) (hS : W.ShapedOpen Tryz.prog) :
    Calls Tryz.prog 4 args W fun e W' => ∃ v, e = .returned v ∧ Rows.opScriptsSpec.post enc Tryz.prog Tryz.f4 false true false false W args v W' := by
  have hW' := hW
  obtain ⟨p, q, hA0, hV, rfl, hfz, hnd⟩ := hW
  have hA : DataW.TrodAll enc Tryz.prog W 0 (fun _ => true) true Tryz.f4.params.toList args.toList ds p := hA0
  rw [Tryz.params4] at hA hval
  obtain ⟨v0, vs0, d0, ds0, p0, q0, hargs, rfl, rfl, h0, r0⟩ := trodAll_cons hA
  obtain ⟨v1, vs1, d1, ds1, p1, q1, rfl, rfl, rfl, h1, r1⟩ := trodAll_cons r0
  obtain ⟨rfl, rfl, rfl⟩ := trodAll_nil r1
  obtain rfl : args = #[v0, v1] := by cases args; simp_all
  obtain ⟨rfl, rfl⟩ := trodVars_none hV
  obtain ⟨mL, hm⟩ := maxLen_of hS
  obtain ⟨l0, B0⟩ := open_nums h0 (okWide_slice Tryz.underlying44 (hval 0 44 v0 rfl rfl))
  obtain ⟨l1, B1⟩ := open_bytes h1 (okWide_slice Tryz.underlying23 (hval 1 23 v1 rfl rfl))
  clear hA0
  simp only [List.append_nil] at hW'
  have hlt := fun x hx => hW'.lt x hx
  refine (walkOpScripts v0 l0 v1 l1 mL W B0 B1 (tab_of_laid hL) (errs_of_laid hL) hm).mono fun e W' ⟨he, hb⟩ => ?_
  subst he
  refine ⟨_, rfl, _, _, _, [], (p0 ++ (p1 ++ [])), [], hW', ?_, ?_, rfl, hb.frame _, fun h => by cases h⟩
  · exact trodAll_cons_mk (shut_bool Tryz.underlying4 _) trodAll_mk0
  · exact trodAll_cons_mk (Below.trod (by kernel_rfl) (by kernel_rfl) (of_decide_eq_true (by kernel_rfl)) h0 hb (fun x hx => by simpa using hlt x (by simp [hx]))) (trodAll_cons_mk (Below.trod (by kernel_rfl) (by kernel_rfl) (of_decide_eq_true (by kernel_rfl)) h1 hb (fun x hx => by simpa using hlt x (by simp [hx]))) trodAll_mk0)

theorem reads (os : Os) {H : Type} (enc : TypeId × Value → H) : ∃ places, DataW.whole enc Tryz.prog ((laidWorld os).forCall (fun _ _ => 0) ⟨#[], #[.slice none 0 0, .slice none 0 0], []⟩).memory Tryz.f4.params.toList Rows.opScriptsSpec.vars false (#[.slice none 0 0, .slice none 0 0] : Array Value).toList 8 = some ([.nil, .nil], [], places) :=
  ⟨[], by kernel_rfl⟩

set_option maxRecDepth 100000 in
theorem lifted (os : Os) (started : os.Started) (H : Type) (enc : TypeId × Value → H) (F : Stop.Interp) :
    ReturnsInHanded {} Tryz.checked os 4 .any ((OpenSpec.ofChange Rows.opScriptsSpec).preRow enc Tryz.prog Tryz.f4 Rows.opScriptsRow.domain false Rows.opScriptsRow.laid) (((OpenSpec.ofChange Rows.opScriptsSpec).at F).post enc Tryz.prog Tryz.f4 false true false false) := by
  obtain ⟨places, hx⟩ := reads os enc
  refine returnsInHanded_of_row (C := Tryz.checked) (s := OpenSpec.ofChange Rows.opScriptsSpec) own started (by kernel_rfl) Tryz.func4
    (witness_row_atRef (enc := enc) (C := Tryz.checked) false (laidWorld os) #[.slice none 0 0, .slice none 0 0] rfl (by kernel_rfl) (by kernel_rfl) (by kernel_rfl)
      (OpenSpec.preRow_of_cond 8 hx (by kernel_rfl) (fun k hk => by cases hk) (by kernel_rfl) (laid_met os _))) ?_
  intro W base args ds gs before hval hW _ _ hR hL hS _
  exact contract H enc W base args ds gs before hval hW hL hR hS

theorem said : Rows.OpScriptsSaid :=
  OpenClaim.holds_of_cond 4 Tryz.f4 rfl rfl rfl rfl rfl rfl rfl ⟨rfl, rfl, rfl, rfl, rfl⟩ rfl rfl rfl rfl rfl (by kernel_rfl) Tryz.func4 (by kernel_rfl)
    (of_decide_eq_true (by kernel_rfl)) (by unfold Func.isWrapper; first | (rw [if_pos (by decide +kernel)]; kernel_rfl) | (rw [if_neg (by decide +kernel)]; exact ⟨rfl, rfl⟩))
    (fun os started H enc _ F => by rw [OpenClaim.pre_eq_preRow]; exact lifted os started H enc F)

theorem plain (f : FuncId) (fn : Func) (hf : Tryz.pinned.checked.prog.funcNamed Tryz.f4.name = some f) (hfn : Tryz.pinned.checked.prog.funcs[f]? = some fn) :
    true = Tryz.pinned.checked.prog.looks [] ∧ ∀ (j : Nat) t, fn.params[j]? = some t → Tryz.pinned.checked.prog.wantsStandIn t = false := by
  obtain rfl : f = 4 := Option.some.inj ((show Tryz.prog.funcNamed Tryz.f4.name = some 4 by kernel_rfl).symm.trans hf) |>.symm
  obtain rfl : fn = Tryz.f4 := (Option.some.inj (Tryz.func4.symm.trans hfn)).symm
  refine ⟨by kernel_rfl, fun j t ht => ?_⟩
  have key : Tryz.f4.params.all (fun t => !Tryz.prog.wantsStandIn t) = true := by kernel_rfl
  have h2 := Array.all_eq_true_iff_forall_mem.1 key t (Array.mem_of_getElem? ht)
  rw [Bool.not_eq_true'] at h2
  exact h2

theorem proved : Rows.OpScriptsCardSaid :=
  Claim7.holds_tied_plain_at .later [] _ _ _ _ said (fun _ h => by cases h) (by kernel_rfl) (fun _ h => by cases h) opScripts_row_tie rfl ⟨rfl, rfl⟩ (by kernel_rfl) rfl plain (by kernel_rfl)
end Go.Proofs.YtlmbcclggaflaaaGreatDoor.lawOpScripts
