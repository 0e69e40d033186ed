/-
  Slices of numbers as an argument; script: the operations that are made of them.
  Plain Lean: scripts from numbers are short, and valid.
  copy of elements of more than one cell into a row that the call made; plain: a list one behind the other.
  slices.Insert of one string into a slice that the call owns.
  Plain Lean: the lines of a script with their line feeds, one behind the other, and without the last line feed; what SplitAfter gives.
  The words of the kinds, as a slice; what the statements ask of them.
  OpWords: the walk.
  OpWords: for every input the law returns true, and each argument reads behind the call as before it: the statement and its card.
  Conditions: none.
-/
import Derived.Test.YtlmbcclggaflaaaGreatDoorBuH
import Derived.Test.YtlmbcclggaflaaaGreatDoorBuF
import Derived.Test.YtlmbcclggaflaaaGreatDoorBuB
import Derived.Laws.CopyOwn
import Derived.Test.YtlmbcclggaflaaaGreatDoorShelf
import Derived.Shelf.Spec.SlicesInsertGrow
import Derived.Test.YtlmbcclggaflaaaGreatDoorBuG
import Derived.Deep.RegionHeld3
set_option linter.unusedVariables false
namespace Go.Proofs.YtlmbcclggaflaaaGreatDoor
open Go Go.RowKit Go.ChangeShapes Go.WideShapes Go.ChangeAt

/-- Numbers. -/
structure NumD where
  K : Nat
  Y : Nat
  Q : Nat
  T : Nat
  l : List UInt8
/-- Numbers in memory. -/
def NumCell (w : World) (b o : Nat) (d : NumD) : Prop :=
  numOK d.K d.Y d.Q d.T ∧ ∃ u, w.cell? ⟨b, o, none⟩ = some (.int .u8 d.K) ∧ w.cell? ⟨b, o + 1, none⟩ = some (.int .u8 d.Y) ∧ w.cell? ⟨b, o + 2, none⟩ = some (.int .u8 d.Q) ∧ w.cell? ⟨b, o + 3, none⟩ = some (.int .u32 d.T) ∧ w.cell? ⟨b, o + 4, none⟩ = some u ∧ BytesAt w u d.l
theorem NumCell.below {w w' : World} {b o : Nat} {d : NumD} (h : NumCell w b o d) (hb : Below w.heap.size w w') : NumCell w' b o d := by
  obtain ⟨h0, u, h1, h2, h3, h4, h5, h6⟩ := h
  exact ⟨h0, u, cell_kept h1 hb, cell_kept h2 hb, cell_kept h3 hb, cell_kept h4 hb, cell_kept h5 hb, h6.below hb⟩
def zeroNum : NumD := ⟨0, 0, 0, 0, []⟩
/-- A slice of numbers. -/
def NumsAt (w : World) (v : Value) (L : List NumD) : Prop :=
  ∃ p c, v = .slice p L.length c ∧ L.length ≤ c ∧ (0 < L.length → ∃ b o, p = some ⟨b, o, none⟩ ∧ ∀ i, i < L.length → NumCell w b (o + i * 5) (L.getD i zeroNum))
theorem NumsAt.below {w w' : World} {v : Value} {L : List NumD} (h : NumsAt w v L) (hb : Below w.heap.size w w') : NumsAt w' v L := by
  obtain ⟨p, c, hv, hc, hp⟩ := h
  refine ⟨p, c, hv, hc, fun h0 => ?_⟩
  obtain ⟨b, o, h1, h2⟩ := hp h0
  exact ⟨b, o, h1, fun i hi => (h2 i hi).below hb⟩
theorem run_upto5 (p : Option Addr) (n c m : Nat) (h : m ≤ c) (wx : World) :
    (Instr.slice 44 (.slice p n c) none (some (.int .i64 (m : Int))) none).run Tryz.prog wx = .ok (.slice p m c) wx := by
  have hs : ∀ w, (Go.sizeOf 25).run Tryz.prog w = .ok 5 w := fun w => by kernel_rfl
  have ht' : Tryz.prog.underlying 44 = some (.slice (Tryz.prog.elem 44)) := by simp [Program.elem, Tryz.underlying44]
  have he : Tryz.prog.elem 44 = 25 := by simp [Program.elem, Tryz.underlying44]
  rw [run_slice_h wx 44 p n c ht' .i64 (m : Int) (by omega) (by omega), he, hs]
  show Result.ok (sliced p 0 (m : Int).toNat c 5) wx = _
  unfold sliced
  rw [Nat.zero_mul, addr_zero]
  rfl
/-- The operations of script. -/
def opN (d : NumD) : OpD := madeO d.K d.Y d.Q d.T (d.l.take 40)
def scriptL (L : List NumD) : List OpD := (L.take 60).map opN
theorem script_snoc (L : List NumD) (i n : Nat) (hn : min L.length 60 = n) (hi : i < n) : (scriptL L).take (i + 1) = (scriptL L).take i ++ [opN (L.getD i zeroNum)] := by
  unfold scriptL
  rw [List.take_add_one]
  congr 1
  rw [List.getElem?_map, List.getElem?_take, if_pos (by omega), List.getD, List.getElem?_eq_getElem (by omega)]
  rfl
theorem script_len (L : List NumD) : (scriptL L).length = min L.length 60 := by
  unfold scriptL
  rw [List.length_map, List.length_take]
  omega
set_option maxRecDepth 100000 in
set_option maxHeartbeats 8000000 in
theorem script_any (v : Value) (L : List NumD) (w : World) (hv : NumsAt w v L) (ht : Tab w) :
    Calls Tryz.prog 20 #[v] w fun e w' => ∃ v', e = .returned v' ∧ OpsNew w.heap.size w' v' (scriptL L) ∧ Below w.heap.size w w' := by
  obtain ⟨i0, hi0, hz0, hz1, hz2⟩ := info_parts infoOp
  obtain ⟨p, c, rfl, hc, hcell⟩ := hv
  obtain ⟨N, hN⟩ : ∃ N, min L.length 60 = N := ⟨_, rfl⟩
  have hNi : min (L.length : Int) 60 = (N : Int) := by omega
  have hN60 : N ≤ 60 := by omega
  have hcut := run_upto5 p L.length c N (by omega)
  have HL := Lib.hid (show N ≤ L.length by omega)
  have HSN := Lib.hid (fun i (h : i < N) => script_snoc L i N hN h)
  have HLN := Lib.hid ((script_len L).trans hN)
  have HCL := Lib.hid hcell
  have HT := Lib.hid ht
  have h00 : Hid (OpsNew w.heap.size w (.slice none 0 0) ((scriptL L).take 0)) := OpsNew.nil _ _
  clear hcell hc hN ht
  go_enter Tryz.func20, Tryz.ntmps20
  go_wp2_with fail
  go_loopw [3, 12] (fun vo vi wr => ∃ (i : Nat) (u : Value), i ≤ N ∧ vi = .int .i64 i ∧ u = vo ∧ Hid (OpsNew w.heap.size wr u ((scriptL L).take i)) ∧ Hid (Below w.heap.size w wr)) (fun _ vi _ => N - (intOf vi).toNat)
  case atStart => exact ⟨0, _, Nat.zero_le _, rfl, rfl, h00, Lib.hid (Below.refl _ _)⟩
  case round =>
    clear h00
    obtain ⟨i, vo, hi, rfl, rfl, hr, c1⟩ := hrel
    by_cases hlt : i < N
    · have hsn := HSN.out i hlt
      obtain ⟨bb, oo, rfl, hci⟩ := HCL.out (by have := HL.out; omega)
      obtain ⟨hok, u, m0, m1, m2, m3, m4, hu⟩ := (hci i (by have := HL.out; omega)).below c1.out
      obtain ⟨d, hd⟩ : ∃ d, L.getD i zeroNum = d := ⟨_, rfl⟩
      rw [hd] at hok m0 m1 m2 m3 hu hsn
      obtain ⟨K, Y, Q, T, l⟩ := d
      replace hu : BytesAt wr u l := hu
      obtain ⟨pu, nu, cu, mu, l2, rfl, hn, hmin, hm3, hmn, hl2t, hl2, hv2, hcut2⟩ := cut_bytes hu 40
      have hmin2 : min (nu : Int) 40 = (mu : Int) := hmin
      have ho2 : opN ⟨K, Y, Q, T, l⟩ = madeO K Y Q T l2 := by
        unfold opN
        show madeO K Y Q T (l.take 40) = _
        congr 1
        rw [hl2t, List.take_eq_take_iff]
        omega
      rw [ho2] at hsn
      obtain ⟨k, a, b, x, vv, ho, hg, hf⟩ := made_op K Y Q T l2
      rw [ho] at hsn
      have HOK : Hid (numOK K Y Q T) := hok
      have HO := Lib.hid ho
      have HS1 := Lib.hid hsn
      have HV2 := Lib.hid hv2
      have b1 := (Below.refl wr.heap.size wr).alloc (Nat.le_refl _) (.cells #[.int .u8 K, .int .u8 Y, .int .u8 Q, .int .u32 T, .slice pu nu cu] 25)
      have HX := Lib.hid (NumBox.new wr K Y Q T (.slice pu nu cu) 25)
      have hfz := new_free (w := wr) #[.int .u8 K, .int .u8 Y, .int .u8 Q, .int .u32 T, .slice pu nu cu] 25 4
      have bs : Below wr.heap.size wr ((wr.alloc (.cells #[.int .u8 K, .int .u8 Y, .int .u8 Q, .int .u32 T, .slice pu nu cu] 25)).setCell ⟨wr.heap.size, 4, none⟩ (.slice pu mu cu)) := below_set b1 wr.heap.size (Nat.le_refl _) 4 _
      have hrs := Lib.hid (hr.out.below bs)
      have hvs := Lib.hid (hv2.below bs)
      have c3 := Lib.hid (c1.out.trans (bs.mono c1.out.size))
      clear ho hg hf hsn hv2 hn hmin hl2t hci hu ho2 hd hok HV2 bs
      go_upto_region 5 with fail
      clear b1 hr m0 m1 m2 m3 m4 c1
      generalize (wr.alloc (.cells #[.int .u8 K, .int .u8 Y, .int .u8 Q, .int .u32 T, .slice pu nu cu] 25)) = w3 at *
      obtain ⟨F, hF⟩ : ∃ F, wr.heap.size = F := ⟨_, rfl⟩
      rw [hF] at HX hfz hrs hvs c3
      rw [hF]
      clear hF
      obtain ⟨n0, n1, n2, n3, n4⟩ := HX.out
      have hne : ∀ i : Nat, i ≠ 4 → (⟨F, 4, none⟩ : Addr) ≠ ⟨F, i, none⟩ := fun i hij he => by injection he with e1 e2; exact hij e2.symm
      have y0 : (w3.setCell ⟨F, 4, none⟩ (.slice pu mu cu)).cell? ⟨F, 0, none⟩ = some (.int .u8 K) := by rw [World.cell?_setCell_other (h := hne 0 (by decide))]; exact n0
      have y1 : (w3.setCell ⟨F, 4, none⟩ (.slice pu mu cu)).cell? ⟨F, 1, none⟩ = some (.int .u8 Y) := by rw [World.cell?_setCell_other (h := hne 1 (by decide))]; exact n1
      have y2 : (w3.setCell ⟨F, 4, none⟩ (.slice pu mu cu)).cell? ⟨F, 2, none⟩ = some (.int .u8 Q) := by rw [World.cell?_setCell_other (h := hne 2 (by decide))]; exact n2
      have y3 : (w3.setCell ⟨F, 4, none⟩ (.slice pu mu cu)).cell? ⟨F, 3, none⟩ = some (.int .u32 T) := by rw [World.cell?_setCell_other (h := hne 3 (by decide))]; exact n3
      have y4 : (w3.setCell ⟨F, 4, none⟩ (.slice pu mu cu)).cell? ⟨F, 4, none⟩ = some (.slice pu mu cu) := World.cell?_setCell_same w3 ⟨F, 4, none⟩ _ n4
      go_upto_region 6 with fail
      clear n0 n1 n2 n3 n4 hne hfz HX
      generalize (w3.setCell ⟨F, 4, none⟩ (.slice pu mu cu)) = w4 at *
      go_wp2_with fail
      refine (made_is K Y Q T HOK.out _ l2 _ hvs.out (HT.out.below c3.out) k a b x vv HO.out).mono ?_
      rintro e w5 ⟨rfl, b1⟩
      have hr5 := Lib.hid (hrs.out.below b1)
      have c5 := Lib.hid (c3.out.trans (b1.mono c3.out.size))
      clear b1 hrs hvs c3 y0 y1 y2 y3 y4 HO HOK
      have hlen2 : ((scriptL L).take i).length = i := by rw [List.length_take, HLN.out]; omega
      have HLI := Lib.hid hlen2
      clear hlen2
      go_wp2_with (at_builtin; refine wpList_append_own _ rfl (.tmp 24) (.tmp 27) 35 rfl w.heap.size 28 i0 (.agg #[.int .i64 0, .int .i64 0, .int .i64 0, .string ⟨#[]⟩, .string ⟨#[]⟩]) 5 56 Tryz.underlying35 hi0 hz0 hz1 hz2 rfl (by decide) _ _ _ rfl (hr5.out.alloc _) ⟨w5.heap.size, 0, none⟩ 1 1 (opC ⟨k, a, b, x, vv⟩) rfl rfl (new5 _ ⟨k, a, b, x, vv⟩ _) (fun q hq => by simp [opC] at hq; rcases hq with rfl | rfl | rfl | rfl | rfl <;> rfl) (by have := HLI.out; unfold maxLen; omega) (by have := HLI.out; omega) (by have := c5.out.size; simp; omega) ?_)
      intro v' w6 hown hgrow _
      have HR2 : Hid (OpsNew w.heap.size w6 v' ((scriptL L).take (i + 1))) := by
        show World.ownsRow _ _ _ _ _ _ _
        rw [HS1.out, List.length_append, List.length_take, ← opsC_snoc]
        exact hown
      have c6 := Lib.hid ((c5.out.alloc c5.out.size (.cells #[.int .i64 k, .int .i64 a, .int .i64 b, .string x, .string vv] 28)).grown hgrow (by have := c5.out.size; simp; omega) (fun k hk => (hr5.out.lt k hk).1))
      clear hown hgrow hr5 c5
      go_wp2_with fail
      go_roundw
      case rel => exact ⟨i + 1, _, by omega, by go_num, rfl, HR2, c6⟩
      case measure => simp [intOf]; omega
    · obtain rfl : i = N := by omega
      have hr2 := hr.out
      rw [List.take_of_length_le (by have := HLN.out; omega)] at hr2
      have HR2 := Lib.hid hr2
      clear hr hr2 hlt
      go_wp2_with fail
      go_ret
      exact ⟨_, rfl, HR2.out, c1.out⟩
end Go.Proofs.YtlmbcclggaflaaaGreatDoor
namespace Go.Proofs.YtlmbcclggaflaaaGreatDoor
open Go Go.RowKit

theorem opT_len40 {o : OpD} (h : opGood o) (hv : o.val.size ≤ 40 ∨ o.kind = 7) : (opT o).length ≤ 1000 := by
  have hw : ∀ k : Int, (wordL k).length ≤ 6 := by
    intro k
    unfold wordL
    repeat' split
    all_goals decide
  have hp : ∀ a : Int, (polL a).length ≤ 7 := by
    intro a
    unfold polL
    split <;> decide
  have h1 := hw o.kind
  unfold opT
  rw [List.length_append]
  have h2 : (opR o).length ≤ 990 := by
    unfold opR
    rcases h with ⟨h0, _, _, h3, h4⟩ | ⟨h0, _, _, h3, h4⟩ | ⟨h0, _⟩ | ⟨h0, _⟩ | ⟨h0, h5, _, L, h3, h4⟩
    · rw [if_pos h0]
      have e1 := key_len h3
      have e2 : (textV o.val.data.toList).1.length ≤ 512 := by
        unfold textV
        rw [str_len]
        split
        · simp
        · split
          · simp
          · rw [hexL_length, str_len]
            omega
      simp only [List.length_cons, List.length_append]
      omega
    · rw [if_neg (by omega), if_pos h0]
      have e1 := key_len h3
      simp only [List.length_cons]
      omega
    · rw [if_neg (by omega), if_neg (by omega), if_neg (by omega), if_neg (by omega)]
      simp
    · rw [if_neg (by omega), if_neg (by omega), if_pos h0]
      have := hp o.a
      simp only [List.length_cons]
      omega
    · rw [if_neg (by omega), if_neg (by omega), if_neg (by omega), if_pos h0]
      have g := planOK_parts h3
      have e1 := dS_len o.a g.2.1
      have e2 := keepT_len L 34 (fun k hk => by have := (g.2.2.2.2 k hk).2; omega) g.2.2.2.1
      unfold crashL
      rw [h4]
      simp only [List.length_cons, List.length_append]
      omega
  omega
theorem opN_val (d : NumD) : (opN d).val.size ≤ 40 ∨ (opN d).kind = 7 := by
  unfold opN madeO
  have e0 : eB.size = 0 := rfl
  repeat' split
  · left
    show (pack ((d.l.take 40).take 512)).size ≤ 40
    rw [pack_size, List.length_take, List.length_take]
    omega
  · left
    show eB.size ≤ 40
    omega
  · left
    show eB.size ≤ 40
    omega
  · left
    show eB.size ≤ 40
    omega
  · right
    rfl
  · left
    show eB.size ≤ 40
    omega
theorem script_good (L : List NumD) : ∀ o ∈ scriptL L, opGood o := by
  intro o ho
  obtain ⟨d, _, rfl⟩ := List.mem_map.1 ho
  exact made_good _ _ _ _ _
theorem paL_bound : ∀ (L : List OpD) (n : Nat), (∀ o ∈ L, (opT o).length ≤ n) → (paL L).length ≤ L.length * (n + 1)
  | [], _, _ => Nat.zero_le _
  | o :: r, n, h => by
    have h1 := h o (by simp)
    have h2 := paL_bound r n (fun p hp => h p (by simp [hp]))
    rw [paL_cons]
    simp only [List.length_append, List.length_cons]
    rw [Nat.add_mul, Nat.one_mul]
    omega
theorem script_short (L : List NumD) : (paL (scriptL L)).length ≤ 60060 := by
  have h := paL_bound (scriptL L) 1000 (fun o ho => by
    obtain ⟨d, _, rfl⟩ := List.mem_map.1 ho
    exact opT_len40 (made_good _ _ _ _ _) (opN_val d))
  have hl := script_len L
  have h2 : (scriptL L).length * 1001 ≤ 60 * 1001 := Nat.mul_le_mul_right _ (by omega)
  omega
end Go.Proofs.YtlmbcclggaflaaaGreatDoor
namespace Go.Proofs.YtlmbcclggaflaaaGreatDoor
open Go Go.RowKit

/-- A list n times, one behind the other. -/
def repV {α : Type} (n : Nat) (X : List α) : List α := (List.replicate n X).flatten
theorem repV_zero {α : Type} (X : List α) : repV 0 X = [] := rfl
theorem repV_succ {α : Type} (n : Nat) (X : List α) : repV (n + 1) X = X ++ repV n X := by
  unfold repV
  rw [List.replicate_succ, List.flatten_cons]
theorem repV_one {α : Type} (X : List α) : repV 1 X = X := by rw [repV_succ, repV_zero, List.append_nil]
theorem repV_len {α : Type} (X : List α) : ∀ n, (repV n X).length = n * X.length
  | 0 => by rw [repV_zero, Nat.zero_mul]; rfl
  | n + 1 => by rw [repV_succ, List.length_append, repV_len X n, Nat.add_mul, Nat.one_mul, Nat.add_comm]
theorem repV_add {α : Type} (X : List α) (b : Nat) : ∀ a, repV (a + b) X = repV a X ++ repV b X
  | 0 => by rw [Nat.zero_add]; rfl
  | a + 1 => by rw [show a + 1 + b = (a + b) + 1 by omega, repV_succ, repV_succ, repV_add X b a, List.append_assoc]
theorem repV_mem {α : Type} {X : List α} {x : α} : ∀ {n : Nat}, x ∈ repV n X → x ∈ X
  | 0, h => by rw [repV_zero] at h; cases h
  | n + 1, h => by
    rw [repV_succ] at h
    rcases List.mem_append.1 h with h | h
    · exact h
    · exact repV_mem h
theorem repV_flat {α β : Type} (f : α → List β) (X : List α) : ∀ n, (repV n X).flatMap f = repV n (X.flatMap f)
  | 0 => rfl
  | n + 1 => by rw [repV_succ, repV_succ, List.flatMap_append, repV_flat f X n]
theorem opC_one (L : List OpD) : ∀ v ∈ L.flatMap opC, v.oneCell' = true := by
  intro v hv
  obtain ⟨o, _, ho⟩ := List.mem_flatMap.1 hv
  unfold opC at ho
  simp only [List.mem_cons, List.not_mem_nil, or_false] at ho
  rcases ho with rfl | rfl | rfl | rfl | rfl <;> rfl
theorem splice_rep {α : Type} (X R : List α) (j k : Nat) : splice (repV j X ++ R) (j * X.length) (repV k X) = repV (j + k) X ++ R.drop (k * X.length) := by
  have e : (repV j X).length = j * X.length := repV_len X j
  unfold splice
  rw [← e, List.take_left, repV_len X k, List.drop_append, List.drop_eq_nil_of_le (by omega), List.nil_append, show (repV j X).length + k * X.length - (repV j X).length = k * X.length by omega, repV_add X k j, List.append_assoc]
theorem splice_first {α : Type} (X Z : List α) : splice Z 0 X = repV 1 X ++ Z.drop X.length := by
  unfold splice
  rw [List.take_zero, List.nil_append, repV_one, Nat.zero_add]

theorem run_copyN {P : Program} (w : World) (dT sT ty elem : TypeId) (z : Nat) (g o dLen dCap : Nat) (sp : Option Addr) (sLen sCap : Nat) (cur : List Value) (t : TypeId) (cs : List Value) (k : Nat)
    (hu : P.underlying dT = some (.slice elem)) (hs : (P.info? elem).map (·.size) = some z) (hg : w.heap[g]? = some (.cells cur.toArray t (0, 0))) (hk : Nat.min sLen dLen = k) (hl : cs.length = k * z)
    (hsrc : 0 < k → ∃ ad, sp = some ad ∧ ∀ j v, cs[j]? = some v → w.cell? (ad.add j) = some v) (hfit : o + cs.length ≤ cur.length) (h1 : ∀ v ∈ cs, v.oneCell' = true) :
    (Builtin.copy_ #[dT, sT] ty #[.slice (some ⟨g, o, none⟩) dLen dCap, .slice sp sLen sCap]).run P w = .ok (goInt k) (w.setRow g (splice cur o cs).toArray) := by
  have hst := run_storeCells_at P g o t cs 0 cur.toArray w hg (by simpa using hfit) h1
  have hsp : (splice cur o cs).toArray = (cur.toArray.toList.take (o + 0) ++ cs ++ cur.toArray.toList.drop (o + 0 + cs.length)).toArray := by
    unfold splice
    simp
  rw [hsp]
  cases hq : P.info? elem with
  | none => simp [hq] at hs
  | some i =>
    have hi : i.size = z := by simpa [hq] using hs
    by_cases h0 : 0 < k
    · obtain ⟨a, rfl, hc⟩ := hsrc h0
      have hld := run_loadCells_list (P := P) w a cs hc
      rw [hl] at hld
      simp [Builtin.copy_, run_underlying hu, Builtin.lenOf, Builtin.firstCells, sizeOf, typeInfo, hq, hi, hk, hld, hst]
    · obtain rfl : k = 0 := by omega
      have hcs : cs = [] := List.eq_nil_of_length_eq_zero (by omega)
      subst hcs
      cases sp with
      | none => simp [Builtin.copy_, run_underlying hu, Builtin.lenOf, Builtin.firstCells, sizeOf, typeInfo, hq, hk, hst]
      | some a => simp [Builtin.copy_, run_underlying hu, Builtin.lenOf, Builtin.firstCells, sizeOf, typeInfo, hq, hk, hst, loadCells, loadCellsFrom]
theorem wpList_copyN {P : Program} {w : World} {ops : Array Oper} {rest : List Oper} {o : Oper} {a : Act} {Q : Exit → Act → World → Prop} (hgd : o.guard = none) (d s : Operand) (dT sT : TypeId)
    (ho : o.op = .call { callee := .builtin .copy, args := #[d, s], argTypes := #[dT, sT] }) (elem : TypeId) (z : Nat) (hu : P.underlying dT = some (.slice elem)) (hsz : (P.info? elem).map (·.size) = some z)
    (g off dLen dCap : Nat) (sp : Option Addr) (sLen sCap : Nat) (hd : a.eval d = .slice (some ⟨g, off, none⟩) dLen dCap) (hs : a.eval s = .slice sp sLen sCap)
    (cur : List Value) (t : TypeId) (hg : w.heap[g]? = some (.cells cur.toArray t (0, 0))) (cs : List Value) (k : Nat) (hk : Nat.min sLen dLen = k) (hl : cs.length = k * z)
    (hsrc : 0 < k → ∃ ad, sp = some ad ∧ ∀ j v, cs[j]? = some v → w.cell? (ad.add j) = some v) (hfit : off + cs.length ≤ cur.length) (h1 : ∀ v ∈ cs, v.oneCell' = true) (B : Nat) (w0 : World) (hb : Below B w0 w) (hBg : B ≤ g)
    (h : ∀ w', Hid (w'.heap[g]? = some (.cells (splice cur off cs).toArray t (0, 0))) → Below B w0 w' → wpList P ops Q rest (a.put o.dst (goInt k)) w') :
    wpList P ops Q (o :: rest) a w := by
  refine wpList_plain hgd fun K hK => ?_
  have hrun := run_copyN (P := P) w dT sT o.type elem z g off dLen dCap sp sLen sCap cur t cs k hu hsz hg hk hl hsrc hfit h1
  unfold Oper.wp
  simp [execOp, ho, resolve, invoke, builtin, hd, hs, hrun, Result.andThen]
  exact hK _ _ (h _ (show _ = _ from setRow_heap w g _ _ t _ hg) (below_setRow hb hBg _))
theorem step_copyN {P : Program} {ops : Array Oper} {o : Oper} {a : Act} {w : World} {K : Act → World → Prop} {Q : Exit → Act → World → Prop} {E : Prop} (hgd : o.guard = none) (d s : Operand) (dT sT : TypeId)
    (ho : o.op = .call { callee := .builtin .copy, args := #[d, s], argTypes := #[dT, sT] }) (elem : TypeId) (z : Nat) (hu : P.underlying dT = some (.slice elem)) (hsz : (P.info? elem).map (·.size) = some z)
    (g off dLen dCap : Nat) (sp : Option Addr) (sLen sCap : Nat) (hd : a.eval d = .slice (some ⟨g, off, none⟩) dLen dCap) (hs : a.eval s = .slice sp sLen sCap)
    (cur : List Value) (t : TypeId) (hg : w.heap[g]? = some (.cells cur.toArray t (0, 0))) (cs : List Value) (k : Nat) (hk : Nat.min sLen dLen = k) (hl : cs.length = k * z)
    (hsrc : 0 < k → ∃ ad, sp = some ad ∧ ∀ j v, cs[j]? = some v → w.cell? (ad.add j) = some v) (hfit : off + cs.length ≤ cur.length) (h1 : ∀ v ∈ cs, v.oneCell' = true) (B : Nat) (w0 : World) (hb : Below B w0 w) (hBg : B ≤ g)
    (h : ∀ w', Hid (w'.heap[g]? = some (.cells (splice cur off cs).toArray t (0, 0))) → Below B w0 w' → K (a.put o.dst (goInt k)) w') :
    if Region.wanted o (yielded ops a.tmps) = true then Oper.wp P o a w K Q else E := by
  have hw : Region.wanted o (yielded ops a.tmps) = true := by simp [Region.wanted, hgd]
  rw [if_pos hw]
  have hrun := run_copyN (P := P) w dT sT o.type elem z g off dLen dCap sp sLen sCap cur t cs k hu hsz hg hk hl hsrc hfit h1
  unfold Oper.wp
  simp [execOp, ho, resolve, invoke, builtin, hd, hs, hrun, Result.andThen]
  exact h _ (show _ = _ from setRow_heap w g _ _ t _ hg) (below_setRow hb hBg _)
end Go.Proofs.YtlmbcclggaflaaaGreatDoor
namespace Go.Proofs.YtlmbcclggaflaaaGreatDoor
open Go Go.RowKit

def ren39 : Go.Shelf.Ren := ⟨fun | 17 => 120 | 22 => 25 | 29 => 64 | 30 => 65 | 36 => 91 | n => n, fun | 0 => 0 | 3 => 3 | 4 => 4 | 9 => 9 | 24 => 50 | n => n, fun | n => n⟩
theorem lay39 : Go.Proofs.Lays2.n22 Tryz.prog ren39 := {
  mixed := by kernel_rfl
  f17 := Tryz.func120.trans (congrArg some (by kernel_rfl))
  f22 := Tryz.func25.trans (congrArg some (by kernel_rfl))
  f29 := Tryz.func64.trans (congrArg some (by kernel_rfl))
  f30 := Tryz.func65.trans (congrArg some (by kernel_rfl))
  f36 := Tryz.func91.trans (congrArg some (by kernel_rfl))
  t0 := Tryz.underlying0
  a0 := Tryz.isAgg0
  z0 := Tryz.sizeOf0
  v0 := Tryz.zeroValue0
  t3 := Tryz.underlying3
  a3 := Tryz.isAgg3
  z3 := Tryz.sizeOf3
  v3 := Tryz.zeroValue3
  t4 := Tryz.underlying4
  a4 := Tryz.isAgg4
  z4 := Tryz.sizeOf4
  v4 := Tryz.zeroValue4
  t9 := Tryz.underlying9
  a9 := Tryz.isAgg9
  z9 := Tryz.sizeOf9
  v9 := Tryz.zeroValue9
  t24 := Tryz.underlying50
  a24 := Tryz.isAgg50
  z24 := Tryz.sizeOf50
  v24 := Tryz.zeroValue50
  i9 := by kernel_rfl }
theorem splice_nil {α : Type} (cur : List α) (o : Nat) : splice cur o [] = cur := by
  unfold splice
  simp
theorem splice_cons {α : Type} (cur : List α) (o : Nat) (v : α) (r : List α) (h : o + (r.length + 1) ≤ cur.length) : splice (cur.set o v) (o + 1) r = splice cur o (v :: r) := by
  unfold splice
  apply List.ext_getElem?
  intro j
  simp only [List.getElem?_append, List.getElem?_take, List.getElem?_set, List.getElem?_drop, List.length_take, List.length_set, List.length_cons, List.getElem?_cons]
  rcases Nat.lt_trichotomy j o with h1 | h1 | h1
  · have e1 : j < min (o + 1) cur.length := by omega
    have e2 : j < min o cur.length := by omega
    simp [e1, e2, h1, Nat.ne_of_gt h1]
    omega
  · subst h1
    have e1 : j < min (j + 1) cur.length := by omega
    have e2 : ¬ j < min j cur.length := by omega
    have e3 : j - min j cur.length = 0 := by omega
    have e4 : j < cur.length := by omega
    simp [e1, e3, e4]
    omega
  · have e1 : ¬ j < min (o + 1) cur.length := by omega
    have e2 : ¬ j < min o cur.length := by omega
    have e3 : j - min (o + 1) cur.length = j - (o + 1) := by omega
    have e4 : j - min o cur.length = (j - (o + 1)) + 1 := by omega
    rw [if_neg e1, if_neg e2, e3, e4]
    by_cases h5 : j - (o + 1) < r.length
    · have e5 : (j - (o + 1)) + 1 < r.length + 1 := by omega
      simp [h5]
    · have e5 : ¬ (j - (o + 1)) + 1 < r.length + 1 := by omega
      have e6 : o ≠ o + 1 + r.length + (j - (o + 1) - r.length) := by omega
      simp [h5, e6]
      congr 1
      omega
theorem setCells_row (g : Nat) (t : TypeId) : ∀ (vs : List Value) (o : Nat) (cur : List Value) (w : World), w.heap[g]? = some (.cells cur.toArray t (0, 0)) → o + vs.length ≤ cur.length → (w.setCells g o vs).heap[g]? = some (.cells (splice cur o vs).toArray t (0, 0))
  | [], o, cur, w, hg, _ => by rw [World.setCells, splice_nil]; exact hg
  | v :: r, o, cur, w, hg, hl => by
    rw [World.setCells, setCell_eq_setRow w g o cur.toArray t (0, 0) v hg]
    have h1 := setRow_heap w g cur.toArray (cur.toArray.setIfInBounds o v) t (0, 0) hg
    have e : cur.toArray.setIfInBounds o v = (cur.set o v).toArray := by simp
    rw [e] at h1 ⊢
    have h2 := setCells_row g t r (o + 1) (cur.set o v) _ h1 (by simp at hl ⊢; omega)
    rw [splice_cons cur o v r (by simpa using hl)] at h2
    exact h2
theorem below_setCells {B g : Nat} {w0 : World} (hB : B ≤ g) : ∀ (vs : List Value) (o : Nat) (w : World), Below B w0 w → Below B w0 (w.setCells g o vs)
  | [], _, _, h => h
  | v :: r, o, w, h => below_setCells hB r (o + 1) _ (below_set h _ hB o v)
theorem two_splices {α : Type} (cur xs : List α) (x : α) (i : Nat) (hx : cur.take xs.length = xs) (hi : i ≤ xs.length) (hl : xs.length + 1 ≤ cur.length) : (splice (splice cur (i + 1) (xs.drop i)) i [x]).take (xs.length + 1) = xs.take i ++ x :: xs.drop i := by
  have e1 : cur.take i = xs.take i := by rw [← hx, List.take_take]; congr 1; omega
  have e2 : (xs.drop i).length = xs.length - i := List.length_drop
  have e3 : (cur.take (i + 1)).length = i + 1 := by rw [List.length_take]; omega
  have e4 : (xs.take i).length = i := by rw [List.length_take]; omega
  have e5 : splice (splice cur (i + 1) (xs.drop i)) i [x] = xs.take i ++ (x :: (xs.drop i ++ cur.drop (xs.length + 1))) := by
    unfold splice
    have h1 : (cur.take (i + 1) ++ (xs.drop i ++ cur.drop (i + 1 + (xs.drop i).length))).take i = xs.take i := by
      rw [List.take_append_of_le_length (by omega), List.take_take, show min i (i + 1) = i by omega, e1]
    have h2 : (cur.take (i + 1) ++ (xs.drop i ++ cur.drop (i + 1 + (xs.drop i).length))).drop (i + [x].length) = xs.drop i ++ cur.drop (xs.length + 1) := by
      rw [show i + [x].length = (cur.take (i + 1)).length by rw [e3]; rfl, List.drop_left, e2]
      congr 2
      omega
    rw [h1, h2]
    rfl
  rw [e5, List.take_append, e4, List.take_of_length_le (by omega)]
  congr 1
  rw [show xs.length + 1 - i = (xs.length - i) + 1 by omega, List.take_succ_cons]
  congr 1
  rw [List.take_append_of_le_length (by omega), List.take_of_length_le (by omega)]
theorem two_fills {α : Type} (xs Z : List α) (x : α) (i : Nat) (hi : i ≤ xs.length) (hl : xs.length - i + 1 ≤ Z.length) : (splice (splice (xs.take i ++ Z) i [x]) (i + 1) (xs.drop i)).take (xs.length + 1) = xs.take i ++ x :: xs.drop i := by
  have e4 : (xs.take i).length = i := by rw [List.length_take]; omega
  have e2 : (xs.drop i).length = xs.length - i := List.length_drop
  have e5 : splice (xs.take i ++ Z) i [x] = (xs.take i ++ [x]) ++ Z.drop 1 := by
    unfold splice
    have h1 : (xs.take i ++ Z).take i = xs.take i := by rw [List.take_append_of_le_length (by omega), List.take_of_length_le (by omega)]
    have h2 : (xs.take i ++ Z).drop (i + [x].length) = Z.drop 1 := by
      rw [List.drop_append, e4, List.drop_eq_nil_of_le (by simp; omega)]
      simp
    rw [h1, h2, List.append_assoc]
  rw [e5]
  have e6 : (xs.take i ++ [x]).length = i + 1 := by rw [List.length_append, e4]; rfl
  unfold splice
  have h3 : ((xs.take i ++ [x]) ++ Z.drop 1).take (i + 1) = xs.take i ++ [x] := by rw [List.take_append_of_le_length (by omega), List.take_of_length_le (by omega)]
  rw [h3, ← List.append_assoc, List.take_append_of_le_length (by rw [List.length_append, e6, e2]; omega), List.take_of_length_le (by rw [List.length_append, e6, e2]; omega), List.append_assoc]
  rfl
theorem insert_any (g n c i : Nat) (xs : List Value) (x : ByteArray) (vb : Nat) (B : Nat) (w : World)
    (hown : w.ownsRow B 9 1 (.slice (some ⟨g, 0, none⟩) n c) n xs) (h1 : ∀ v ∈ xs, v.oneCell' = true) (hi : i < n) (hn : n ≤ 100000) (hB : B ≤ w.heap.size)
    (hx : w.heap[vb]? = some (.cells #[.string x] 9 (0, 0))) (hne : vb ≠ g) (w0 : World) (hb : Below B w0 w) :
    Calls Tryz.prog 25 #[.slice (some ⟨g, 0, none⟩) n c, .int .i64 (i : Int), .slice (some ⟨vb, 0, none⟩) 1 1] w fun e w' =>
      ∃ g' c', e = .returned (.slice (some ⟨g', 0, none⟩) (n + 1) c') ∧ w'.ownsRow B 9 1 (.slice (some ⟨g', 0, none⟩) (n + 1) c') (n + 1) (xs.take i ++ Value.string x :: xs.drop i) ∧ Below B w0 w' := by
  obtain ⟨hl, hown⟩ := hown
  rw [Nat.mul_one] at hl
  rcases hown with ⟨hv, _⟩ | ⟨g', cap, cur, hv, hBg, hg, hnc, hcm, hcs, htk⟩
  · cases hv
  obtain ⟨rfl, rfl⟩ : g' = g ∧ cap = c := by
    injection hv with e1 _ e2
    injection e1 with e1
    injection e1 with e1
    exact ⟨e1.symm, e2.symm⟩
  clear hv
  rw [Nat.mul_one] at hcs htk
  have hgc : ∀ j, w.cell? ⟨g', j, none⟩ = cur.toList[j]? := fun j => by rw [Lib.cell_of_heap hg]; simp
  have hcl : cur.toList.length = cap := by simpa using hcs
  have hcells : ∀ j v, xs[j]? = some v → w.cell? ⟨g', 0 + j, none⟩ = some v := fun j v hj => by
    rw [Nat.zero_add, hgc, ← hj, ← htk, List.getElem?_take, if_pos (by have := (List.getElem?_eq_some_iff.mp hj).1; omega)]
  have hvc : ∀ j v, [Value.string x][j]? = some v → w.cell? ⟨vb, 0 + j, none⟩ = some v := fun j v hj => by
    rw [Nat.zero_add, Lib.cell_of_heap hx, ← hj]
    simp
  have hv1 : ∀ v ∈ [Value.string x], v.oneCell' = true := fun v hv => by
    rw [List.mem_singleton] at hv
    rw [hv]
    rfl
  have hml : maxLen = 9223372036854775807 := rfl
  have hlen : (xs.take i ++ Value.string x :: xs.drop i).length = n + 1 := by
    rw [List.length_append, List.length_cons, List.length_take, List.length_drop]
    omega
  by_cases hroom : n + 1 ≤ cap
  · have h := Any2.slices_Insert_string_shift lay39 g' 0 n cap i vb 0 1 1 xs [Value.string x] w hi (by decide) hroom (by omega) hne hl rfl hcells
      (fun j hj => by rw [Nat.zero_add, hgc, List.getElem?_eq_getElem (by omega)]; rfl) (fun j _ => Lib.frozen_of_heap hg _) hvc h1 hv1 9 9 1 cap
      (by simp [World.shape?, hx]) (by simp [World.shape?, hg, hcs]) (by omega) (Lib.frozen_of_heap hx _) (Lib.frozen_of_heap hx _)
    refine h.mono ?_
    rintro e w' ⟨rfl, rfl⟩
    refine ⟨g', cap, rfl, ⟨by rw [hlen, Nat.mul_one], Or.inr ⟨g', cap, (splice (splice cur.toList (0 + (i + 1)) (xs.drop i)) (0 + i) [Value.string x]).toArray, rfl, hBg, ?_, hroom, hcm, ?_, ?_⟩⟩, ?_⟩
    · have hg1 : (w.drew).heap[g']? = some (.cells cur.toList.toArray 9 (0, 0)) := by rw [Array.toArray_toList]; exact hg
      have hg2 := setCells_row g' 9 (xs.drop i) (0 + (i + 1)) cur.toList _ hg1 (by rw [List.length_drop]; omega)
      exact setCells_row g' 9 [Value.string x] (0 + i) _ _ hg2 (by rw [length_splice _ _ _ (by rw [List.length_drop]; omega)]; simp; omega)
    · have e1 := length_splice cur.toList (0 + (i + 1)) (xs.drop i) (by rw [List.length_drop]; omega)
      have e2 := length_splice (splice cur.toList (0 + (i + 1)) (xs.drop i)) (0 + i) [Value.string x] (by rw [e1]; simp; omega)
      rw [Nat.mul_one]
      show (splice _ _ _).length = cap
      rw [e2, e1, hcl]
    · rw [Nat.mul_one]
      show (splice _ _ _).take (n + 1) = _
      rw [Nat.zero_add, Nat.zero_add, ← hl]
      exact two_splices cur.toList xs (Value.string x) i (by rw [hl]; exact htk) (by omega) (by omega)
    · exact below_setCells hBg _ _ _ (below_setCells hBg _ _ _ hb.drew)
  · have hcn : cap < n + 1 := by omega
    have h := Any2.slices_Insert_string_grow lay39 g' 0 n cap i vb 0 1 1 xs [Value.string x] w hi (by decide) hnc hcn (by omega) hl rfl hcells hvc h1 hv1
    refine h.mono ?_
    rintro e w' ⟨rfl, rfl⟩
    have hge := grownCap_ge w (n + 1) cap 9
    have hle := grownCap_le_maxLen w (n + 1) cap 9 (by omega)
    show ∃ g' c', Ending.returned (.slice (some ⟨w.heap.size, 0, none⟩) (n + 1) (grownCap w (n + 1) cap 9)) = _ ∧ _
    obtain ⟨G, hG⟩ : ∃ G, grownCap w (n + 1) cap 9 = G := ⟨_, rfl⟩
    have hG2 : grownCap w (n + 1) cap (ren39.t 9) = G := hG
    rw [hG] at hge hle ⊢
    rw [hG2]
    obtain ⟨Z, hZ⟩ : ∃ Z, (Builtin.zeroCells (Value.string ⟨#[]⟩).cells (n + 1 - i) ++ Builtin.zeroCells (Value.string ⟨#[]⟩).cells (G - (n + 1))).toList = Z := ⟨_, rfl⟩
    have hZl : Z.length = (n + 1 - i) + (G - (n + 1)) := by
      rw [← hZ]
      simp [Builtin.zeroCells, Value.cells]
    have hrow : (xs.take i).toArray ++ Builtin.zeroCells (Value.string ⟨#[]⟩).cells (n + 1 - i) ++ Builtin.zeroCells (Value.string ⟨#[]⟩).cells (G - (n + 1)) = (xs.take i ++ Z).toArray := by
      rw [← hZ]
      simp
    rw [hrow]
    have htl : (xs.take i ++ Z).length = G := by
      rw [List.length_append, List.length_take, hZl]
      omega
    have hg1 : ((w.alloc (.cells (xs.take i ++ Z).toArray 9)).drew).heap[w.heap.size]? = some (.cells (xs.take i ++ Z).toArray 9 (0, 0)) := heap_alloc_new w _
    have hg2 := setCells_row w.heap.size 9 [Value.string x] i _ _ hg1 (by rw [htl]; simp; omega)
    have e1 := length_splice (xs.take i ++ Z) i [Value.string x] (by rw [htl]; simp; omega)
    have hg3 := setCells_row w.heap.size 9 (xs.drop i) (i + 1) _ (((w.alloc (.cells (xs.take i ++ Z).toArray 9)).drew.setCells w.heap.size i [Value.string x]).drew) hg2 (by rw [e1, htl, List.length_drop]; omega)
    have e2 := length_splice (splice (xs.take i ++ Z) i [Value.string x]) (i + 1) (xs.drop i) (by rw [e1, htl, List.length_drop]; omega)
    refine ⟨w.heap.size, G, rfl, ⟨by rw [hlen, Nat.mul_one], Or.inr ⟨w.heap.size, G, _, rfl, hB, hg3, hge, hle, ?_, ?_⟩⟩, ?_⟩
    · rw [Nat.mul_one]
      show (splice _ _ _).length = G
      rw [e2, e1, htl]
    · rw [Nat.mul_one]
      show (splice _ _ _).take (n + 1) = _
      rw [← hl]
      exact two_fills xs Z (Value.string x) i (by omega) (by rw [hZl]; omega)
    · exact below_setCells hB _ _ _ (below_setCells hB _ _ _ (hb.alloc hB _).drew).drew
end Go.Proofs.YtlmbcclggaflaaaGreatDoor
namespace Go.Proofs.YtlmbcclggaflaaaGreatDoor
open Go Go.RowKit

/-- Lines one behind the other, each with its line feed. -/
def flatL (X : List (List UInt8)) : List UInt8 := X.flatMap fun x => x ++ [10]
theorem flat_cons (x : List UInt8) (X : List (List UInt8)) : flatL (x :: X) = x ++ 10 :: flatL X := by
  unfold flatL
  simp
theorem flat_append (X Y : List (List UInt8)) : flatL (X ++ Y) = flatL X ++ flatL Y := by
  unfold flatL
  rw [List.flatMap_append]
theorem flat_ops (L : List OpD) : flatL (L.map opT) = paL L := by
  unfold flatL paL
  rw [List.flatMap_map]
theorem pc_flat : ∀ (X : List (List UInt8)) (r : List UInt8), (∀ x ∈ X, (10 : UInt8) ∉ x) → pc 10 (flatL X ++ r) = X ++ pc 10 r
  | [], _, _ => rfl
  | x :: X, r, h => by
    rw [flat_cons, List.append_assoc, List.cons_append, pc_app _ _ (h x (by simp)), pc_flat X r fun y hy => h y (by simp [hy])]
    rfl
theorem count_flat : ∀ (X : List (List UInt8)), (∀ x ∈ X, (10 : UInt8) ∉ x) → (flatL X).count 10 = X.length
  | [], _ => rfl
  | x :: X, h => by
    rw [flat_cons, List.count_append, List.count_eq_zero.2 (h x (by simp)), List.count_cons, count_flat X fun y hy => h y (by simp [hy])]
    simp
theorem count_len (X : List (List UInt8)) : X.length ≤ (flatL X).length := by
  induction X with
  | nil => exact Nat.zero_le _
  | cons x X ih =>
    rw [flat_cons]
    simp only [List.length_cons, List.length_append]
    omega
theorem splitK_flat : ∀ (X : List (List UInt8)), (∀ x ∈ X, (10 : UInt8) ∉ x) → Lib.splitK [10] 1 (Lib.count (flatL X) [10]) (flatL X) = X.map (fun x => x ++ [10]) ++ [[]] ∧ Lib.count (flatL X) [10] = X.length
  | [], _ => by
    have h0 : (10 : UInt8) ∉ flatL [] := by simp [flatL]
    rw [Lib.count_miss (idx_miss _ h0)]
    exact ⟨rfl, rfl⟩
  | x :: X, h => by
    obtain ⟨h1, h2⟩ := splitK_flat X fun y hy => h y (by simp [hy])
    have hn := h x (by simp)
    have hi := idx_hit x (flatL X) hn
    rw [flat_cons, Lib.count_hit (by simp) hi]
    have ed : (x ++ 10 :: flatL X).drop (x.length + 1) = flatL X := by simp
    have et : (x ++ 10 :: flatL X).take (((x.length : Nat) : Int).toNat + 1) = x ++ [10] := by
      rw [Int.toNat_natCast, List.take_append, List.take_of_length_le (by omega)]
      simp
    have e3 : ([10] : List UInt8).length = 1 := rfl
    rw [e3, ed, h2]
    refine ⟨?_, by rw [List.length_cons]; omega⟩
    rw [Nat.add_comm, Lib.splitK, hi]
    have : ¬ (((x.length : Int) == -1) = true) := by rw [beq_iff_eq]; omega
    rw [if_neg this, et, e3, Int.toNat_natCast, ed, ← h2, h1]
    rfl
/-- The lines as the slice holds them. -/
def linesW (X : List (List UInt8)) : List ByteArray := X.map (fun x => pack (x ++ [10])) ++ [pack []]
theorem linesW_len (X : List (List UInt8)) : (linesW X).length = X.length + 1 := by simp [linesW]
theorem linesW_data (X : List (List UInt8)) : (linesW X).map (·.data.toList) = X.map (fun x => x ++ [10]) ++ [[]] := by
  unfold linesW
  rw [List.map_append, List.map_map]
  congr 1
theorem splitB_flat (X : List (List UInt8)) (h : ∀ x ∈ X, (10 : UInt8) ∉ x) : Lib.splitB ⟨#[10]⟩ 1 (Lib.countB (pack (flatL X)) ⟨#[10]⟩) (pack (flatL X)) = linesW X ∧ Lib.countB (pack (flatL X)) ⟨#[10]⟩ = X.length := by
  obtain ⟨h1, h2⟩ := splitK_flat X h
  have hc : Lib.countB (pack (flatL X)) ⟨#[10]⟩ = Lib.count (flatL X) [10] := by
    show Lib.count (pack (flatL X)).data.toList _ = _
    rw [pack_data]
  refine ⟨?_, hc.trans h2⟩
  have e : (Lib.splitB ⟨#[10]⟩ 1 (Lib.countB (pack (flatL X)) ⟨#[10]⟩) (pack (flatL X))).map (·.data.toList) = (linesW X).map (·.data.toList) := by
    rw [Lib.splitB_data, hc, linesW_data, pack_data]
    exact h1
  have inj : ∀ (A B : List ByteArray), A.map (·.data.toList) = B.map (·.data.toList) → A = B := by
    intro A
    induction A with
    | nil => intro B hB; cases B with
      | nil => rfl
      | cons b B => simp at hB
    | cons a A ih => intro B hB; cases B with
      | nil => simp at hB
      | cons b B =>
        rw [List.map_cons, List.map_cons] at hB
        injection hB with e1 e2
        rw [ih B e2, ← data_pack a, ← data_pack b, e1]
  exact inj _ _ e
theorem joinEmpty : ∀ (W : List (List UInt8)), Lib.join W [] = W.flatten
  | [] => rfl
  | [x] => by rw [Lib.join_one]; simp
  | x :: y :: t => by
    have := joinEmpty (y :: t)
    rw [Lib.join_cons]
    unfold Lib.joinTail
    simp
theorem linesW_join (X : List (List UInt8)) : Lib.join ((linesW X).map (·.data.toList)) [] = flatL X := by
  rw [linesW_data, joinEmpty, List.flatten_append]
  unfold flatL
  rw [List.flatMap_def]
  simp
/-- Without the last line feed the same is read. -/
theorem trim_read : ∀ (X : List (List UInt8)), (∀ x ∈ X, (10 : UInt8) ∉ x) → rdL (pc 10 (Lib.trimSuffix (flatL X) [10])) 0 [] = rdL X 0 [] := by
  intro X h
  rcases List.eq_nil_or_concat X with rfl | ⟨Y, y, rfl⟩
  · show rdL [[]] 0 [] = rdL [] 0 []
    rw [rd_skip (by decide), rd_nil, rd_nil]
  · rw [List.concat_eq_append] at h ⊢
    have e1 : flatL (Y ++ [y]) = (flatL Y ++ y) ++ [10] := by
      rw [flat_append, flat_cons]
      simp [flatL]
    have e2 : Lib.trimSuffix (flatL (Y ++ [y])) [10] = flatL Y ++ y := by
      unfold Lib.trimSuffix
      rw [e1, if_pos (by
        unfold Lib.hasSuffix
        rw [List.isSuffixOf_iff_suffix]
        exact List.suffix_append _ _)]
      have e3 : ((flatL Y ++ y) ++ [10]).length - ([10] : List UInt8).length = (flatL Y ++ y).length := by simp
      rw [e3, List.take_left]
    rw [e2, pc_flat Y y fun x hx => h x (by simp [hx]), pc_word y (h y (by simp))]
theorem trim_len (X : List (List UInt8)) : (Lib.trimSuffix (flatL X) [10]).length ≤ (flatL X).length := by
  unfold Lib.trimSuffix
  split
  · rw [List.length_take]
    omega
  · exact Nat.le_refl _
theorem rdA_lines {X : List (List UInt8)} {L : List OpD} (hX : ∀ x ∈ X, (10 : UInt8) ∉ x) (hL : LinesOf X L) (hl : L.length ≤ 2000) (hz : (flatL X).length ≤ 65536) {s : ByteArray} (hs : s.data.toList = Lib.trimSuffix (flatL X) [10]) : rdA s = (L, 0, 0) := by
  have h1 := trim_len X
  unfold rdA
  rw [← str_len, hs, if_neg (by omega), trim_read X hX]
  have h2 := rd_lines X L [] 0 [] hL (by simpa using hl)
  rw [List.append_nil] at h2
  rw [h2, rd_nil]
  rfl
/-- The lines that are inserted. -/
def moreB : List (List UInt8) := [[], [35], [35, 32, 115, 121, 110, 99], [35, 115, 116, 101, 112]]
theorem more_mem {n : Nat} (h : n < 4) : moreB.getD n [] ∈ moreB := by
  have hl : moreB.length = 4 := rfl
  rw [List.getD, List.getElem?_eq_getElem (by omega)]
  exact List.getElem_mem _
theorem more_len : ∀ x ∈ moreB, x.length ≤ 6 := by decide
theorem more_no10 : ∀ x ∈ moreB, (10 : UInt8) ∉ x := by decide
theorem more_skip : ∀ x ∈ moreB, skipL x = true := by decide
/-- What stands behind some insertions. -/
structure LinesSt (L : List OpD) (k : Nat) (X : List (List UInt8)) : Prop where
  lines : LinesOf X L
  no10 : ∀ x ∈ X, (10 : UInt8) ∉ x
  len : X.length ≤ 60 + k
  size : (flatL X).length ≤ 60060 + 7 * k
theorem LinesSt.start (L : List NumD) : LinesSt (scriptL L) 0 ((scriptL L).map opT) := by
  refine ⟨lines_ops _ (script_good L), fun x hx => ?_, by rw [List.length_map, script_len]; omega, by rw [flat_ops]; have := script_short L; omega⟩
  obtain ⟨o, ho, rfl⟩ := List.mem_map.1 hx
  exact opT_no10 (script_good L o ho)
theorem LinesSt.step {L : List OpD} {k : Nat} {X : List (List UInt8)} (h : LinesSt L k X) (i n : Nat) (hn : n < 4) : LinesSt L (k + 1) (X.take i ++ moreB.getD n [] :: X.drop i) := by
  have hm := more_mem hn
  have h6 := more_len _ hm
  have e0 : X.take i ++ X.drop i = X := List.take_append_drop i X
  refine ⟨lines_insert (X.take i) (X.drop i) _ L (by rw [e0]; exact h.lines) (more_skip _ hm), fun x hx => ?_, ?_, ?_⟩
  · rcases List.mem_append.1 hx with hx | hx
    · exact h.no10 x (List.mem_of_mem_take hx)
    · rcases List.mem_cons.1 hx with rfl | hx
      · exact more_no10 _ hm
      · exact h.no10 x (List.mem_of_mem_drop hx)
  · have e1 : (X.take i).length + (X.drop i).length = X.length := by rw [← List.length_append, e0]
    have := h.len
    simp only [List.length_append, List.length_cons]
    omega
  · have e1 : (flatL (X.take i)).length + (flatL (X.drop i)).length = (flatL X).length := by rw [← List.length_append, ← flat_append, e0]
    have := h.size
    rw [flat_append, flat_cons]
    simp only [List.length_append, List.length_cons]
    omega
theorem linesW_insert (X : List (List UInt8)) (i : Nat) (y : List UInt8) (hi : i ≤ X.length) : (strCellsL (linesW X)).take i ++ Value.string (pack (y ++ [10])) :: (strCellsL (linesW X)).drop i = strCellsL (linesW (X.take i ++ y :: X.drop i)) := by
  unfold strCellsL linesW
  have hl : (X.map (fun x => pack (x ++ [10]))).length = X.length := List.length_map _
  rw [← List.map_take, ← List.map_drop, List.take_append_of_le_length (by omega), List.drop_append_of_le_length (by omega), List.map_append, List.map_cons, ← List.map_take, ← List.map_drop]
  simp
theorem strCells_one (W : List ByteArray) : ∀ v ∈ strCellsL W, v.oneCell' = true := by
  intro v hv
  obtain ⟨x, _, rfl⟩ := List.mem_map.1 hv
  rfl
/-- What SplitAfter gives for lines. -/
theorem splitAfter_any (X : List (List UInt8)) (hX : ∀ x ∈ X, (10 : UInt8) ∉ x) (hz : (flatL X).length ≤ 100000) (m : Int) (w : World) (hm : w.cell? ⟨0, 0, none⟩ = some (.int .i64 m)) :
    Calls Tryz.prog 24 #[.string (pack (flatL X)), .string ⟨#[10]⟩] w fun e w' => ∃ g c, e = .returned (.slice (some ⟨g, 0, none⟩) (X.length + 1) c) ∧ w'.ownsRow w.heap.size 9 1 (.slice (some ⟨g, 0, none⟩) (X.length + 1) c) (X.length + 1) (strCellsL (linesW X)) ∧ Below w.heap.size w w' := by
  obtain ⟨h1, h2⟩ := splitB_flat X hX
  have hsz : (pack (flatL X)).size = (flatL X).length := pack_size _
  have hcl := count_len X
  have hgen := Tryz.strings_genSplit (pack (flatL X)) ⟨#[10]⟩ 1 (-1) (X.length + 1) m w (by omega) hm (by decide) (by decide) (by decide) (by decide) (by rw [if_pos (by decide), h2]; omega)
  rw [show X.length + 1 - 1 = Lib.countB (pack (flatL X)) ⟨#[10]⟩ by rw [h2]; rfl, h1, linesW_len] at hgen
  have HG := Lib.hid hgen
  clear hgen h1 h2 hsz hcl
  go_enter Tryz.func24, Tryz.ntmps24
  go_wp2_with fail
  refine HG.out.mono ?_
  rintro e w1 ⟨rfl, rfl⟩
  have hrow : Lib.cellsOf (linesW X) (X.length + 1) = (strCellsL (linesW X)).toArray := by
    unfold Lib.cellsOf strCellsL
    rw [linesW_len, Nat.sub_self]
    simp
  rw [hrow]
  have hl : (strCellsL (linesW X)).length = X.length + 1 := by unfold strCellsL; rw [List.length_map, linesW_len]
  have HO : Hid ((w.alloc (.cells (strCellsL (linesW X)).toArray 9)).ownsRow w.heap.size 9 1 (.slice (some ⟨w.heap.size, 0, none⟩) (X.length + 1) (X.length + 1)) (X.length + 1) (strCellsL (linesW X))) := by
    have hl2 := count_len X
    have hml : maxLen = 9223372036854775807 := rfl
    refine ⟨by rw [hl, Nat.mul_one], Or.inr ⟨w.heap.size, X.length + 1, _, rfl, Nat.le_refl _, heap_alloc_new w _, Nat.le_refl _, by omega, by rw [Nat.mul_one]; simpa using hl, ?_⟩⟩
    rw [Nat.mul_one]
    show (strCellsL (linesW X)).take _ = _
    rw [List.take_of_length_le (by omega)]
  have c1 := Lib.hid ((Below.refl w.heap.size w).alloc (Nat.le_refl _) (.cells (strCellsL (linesW X)).toArray 9))
  clear hrow hl
  go_wp2_with fail
  go_ret
  exact ⟨_, _, rfl, HO.out, c1.out⟩
end Go.Proofs.YtlmbcclggaflaaaGreatDoor
namespace Go.Proofs.YtlmbcclggaflaaaGreatDoor
open Go Go.RowKit

/-- The words of the first n kinds. -/
def wordsK (n : Nat) : List ByteArray := (List.range n).map fun i : Nat => pack (wordL ((i : Int) + 1))
theorem wordsK_len (n : Nat) : (wordsK n).length = n := by simp [wordsK]
theorem wordsK_succ (n : Nat) : wordsK (n + 1) = wordsK n ++ [pack (wordL ((n : Int) + 1))] := by
  unfold wordsK
  rw [List.range_succ, List.map_append]
  rfl
theorem wordsK_get (n i : Nat) (h : i < n) : (wordsK n)[i]? = some (pack (wordL ((i : Int) + 1))) := by
  unfold wordsK
  rw [List.getElem?_map, List.getElem?_range h]
  rfl
theorem wordsK_new : ∀ i, i < 8 → Lib.containsS (wordsK i) (pack (wordL ((i : Int) + 1))) = false := by
  intro i hi
  rcases (show i = 0 ∨ i = 1 ∨ i = 2 ∨ i = 3 ∨ i = 4 ∨ i = 5 ∨ i = 6 ∨ i = 7 by omega) with rfl | rfl | rfl | rfl | rfl | rfl | rfl | rfl <;> kernel_rfl
theorem own_cellS {w : World} {B g n c : Nat} {W : List ByteArray} (h : w.ownsRow B 9 1 (.slice (some ⟨g, 0, none⟩) n c) n (strCellsL W)) (i : Nat) (x : ByteArray) (hi : W[i]? = some x) : w.cell? ⟨g, i, none⟩ = some (.string x) := by
  have hl : W.length = n := by
    have h1 := h.1
    unfold strCellsL at h1
    rw [List.length_map] at h1
    omega
  have h2 := World.ownsRow.cellAt h i (by have := (List.getElem?_eq_some_iff.mp hi).1; omega)
  rw [h2]
  unfold strCellsL
  rw [List.getElem?_map, hi]
  rfl
theorem containsW (W : List ByteArray) (n B : Nat) (v : Value) (x : ByteArray) (w : World) (hn : W.length = n) (hb : n ≤ 1000) (h : w.ownsRow B 9 1 v n (strCellsL W)) :
    Calls Tryz.prog 44 #[v, .string x] w fun e w' => e = .returned (.bool (Lib.containsS W x)) ∧ w' = w := by
  subst hn
  rcases h.2 with ⟨hv, h0⟩ | ⟨g, cap, cur, hv, _⟩
  · rw [hv]
    have hW : W = [] := List.eq_nil_of_length_eq_zero h0
    subst hW
    exact Tryz.slices_Contains_string_empty none 0 x w
  · rw [hv] at h ⊢
    have hc := Tryz.slices_Contains_string g 0 W.length cap W x w (Nat.le_refl _) (by omega) (fun j hj => by
      rw [Nat.zero_add]
      refine own_cellS h j _ ?_
      rw [List.getD, List.getElem?_eq_getElem hj]
      rfl)
    rw [List.take_length] at hc
    exact hc
theorem words_facts : ∀ i : Nat, i < 8 → (pack (wordL ((i : Int) + 1))).data.toList ≠ [] ∧ Lib.indexByte (pack (wordL ((i : Int) + 1))).data.toList 32 = -1 := by
  intro i hi
  rcases (show i = 0 ∨ i = 1 ∨ i = 2 ∨ i = 3 ∨ i = 4 ∨ i = 5 ∨ i = 6 ∨ i = 7 by omega) with rfl | rfl | rfl | rfl | rfl | rfl | rfl | rfl <;> exact ⟨by decide, by kernel_rfl⟩
theorem word_none {k : Int} (h : k < 1 ∨ 8 < k) : wordL k = [] ∧ updB k = false := by
  constructor
  · unfold wordL
    rw [if_neg (by omega), if_neg (by omega), if_neg (by omega), if_neg (by omega), if_neg (by omega), if_neg (by omega), if_neg (by omega), if_neg (by omega)]
  · unfold updB
    exact decide_eq_false (by omega)
theorem word_no32 (k : Int) : (32 : UInt8) ∉ wordL k := by
  unfold wordL
  repeat' split
  all_goals decide
theorem upd_b (k : Int) (w : World) :
    Calls Tryz.prog 38 #[.int .i64 k] w fun e w' => e = .returned (.bool (updB k)) ∧ Below w.heap.size w w' :=
  (update_any k w).mono fun e w' h => ⟨h.1, h.2 ▸ Below.refl _ _⟩
theorem upd_q (k : Int) (U : Bool) (h : updB k = U) (w : World) :
    Calls Tryz.prog 38 #[.int .i64 k] w fun e w' => e = .returned (.bool U) ∧ w' = w :=
  (update_any k w).mono fun e w' hh => ⟨by rw [← h]; exact hh.1, hh.2.symm⟩
/-- The pieces of the string of an operation. -/
theorem pieces_any (o : OpD) (h : opGood o) : ∃ r, pc 32 (opT o) = wordL o.kind :: r := by
  unfold opT
  have hn := word_no32 o.kind
  obtain ⟨r, hr⟩ : ∃ r, opR o = r := ⟨_, rfl⟩
  rw [hr]
  have hd : r = [] ∨ ∃ t, r = 32 :: t := by
    rw [← hr]
    unfold opR
    repeat' split
    · exact Or.inr ⟨_, rfl⟩
    · exact Or.inr ⟨_, rfl⟩
    · exact Or.inr ⟨_, rfl⟩
    · exact Or.inr ⟨_, rfl⟩
    · exact Or.inl rfl
  rcases hd with rfl | ⟨t, rfl⟩
  · rw [List.append_nil, pc_word _ hn]
    exact ⟨[], rfl⟩
  · rw [pc_app _ _ hn]
    exact ⟨_, rfl⟩
theorem pieces_del {o : OpD} (h : opGood o) (hk : o.kind = 3) : pc 32 (opT o) = [wordL 3, o.key.data.toList] := by
  rw [good2_text (Or.inr hk), hk, pc_app _ _ (word_no32 3)]
  rcases h with ⟨h0, _⟩ | ⟨h0, _, _, h3, _⟩ | ⟨h0, _⟩ | ⟨h0, _⟩ | ⟨h0, _⟩
  · omega
  · rw [pc_word _ (key_no h3)]
  · omega
  · omega
  · omega
theorem pieces_put {o : OpD} (h : opGood o) (hk : o.kind = 1) : pc 32 (opT o) = [wordL 1, o.key.data.toList, (textV o.val.data.toList).1] := by
  rw [good1_text hk, pc_app _ _ (word_no32 1)]
  rcases h with ⟨h0, _, _, h3, _⟩ | ⟨h0, _⟩ | ⟨h0, _⟩ | ⟨h0, _⟩ | ⟨h0, _⟩
  · rw [pc_app _ _ (key_no h3), pc_word _ (textV_no _ 32 (by decide))]
  · omega
  · omega
  · omega
  · omega
set_option maxRecDepth 100000 in
theorem digit_slice (n : Int) (h0 : 0 ≤ n) (h : n < 16) (wx : World) : (Instr.slice 9 (.string ⟨#[48, 49, 50, 51, 52, 53, 54, 55, 56, 57, 97, 98, 99, 100, 101, 102]⟩) (some (.int .u8 n)) (some (.int .u8 (n + 1))) none).run Tryz.prog wx = .ok (.string ⟨#[hexD n.toNat]⟩) wx := by
  have hc : n = 0 ∨ n = 1 ∨ n = 2 ∨ n = 3 ∨ n = 4 ∨ n = 5 ∨ n = 6 ∨ n = 7 ∨ n = 8 ∨ n = 9 ∨ n = 10 ∨ n = 11 ∨ n = 12 ∨ n = 13 ∨ n = 14 ∨ n = 15 := by omega
  rcases hc with rfl | rfl | rfl | rfl | rfl | rfl | rfl | rfl | rfl | rfl | rfl | rfl | rfl | rfl | rfl | rfl <;> rfl
theorem hex_step (l : List UInt8) (i : Nat) (h : i < l.length) : pack (hexL (l.take i)) ++ (⟨#[hexD ((l.getD i 0).toNat / 16)]⟩ ++ ⟨#[hexD ((l.getD i 0).toNat % 16)]⟩) = pack (hexL (l.take (i + 1))) := by
  rw [hexL_take_succ l i h]
  apply ByteArray.ext
  apply Array.ext'
  simp [pack]
theorem split_is (P : ByteArray) (hs : P.size ≤ 100000) (n : Nat) (hn : (pc 32 P.data.toList).length = n) (m : Int) (w : World) (hm : w.cell? ⟨0, 0, none⟩ = some (.int .i64 m)) :
    Calls Tryz.prog 46 #[.string P, .string ⟨#[32]⟩] w fun e w' => ∃ g, e = .returned (.slice (some ⟨g, 0, none⟩) n n) ∧ (∀ i x, (pc 32 P.data.toList)[i]? = some x → w'.cell? ⟨g, i, none⟩ = some (.string (pack x))) ∧ Below w.heap.size w w' := by
  refine (Tryz.strings_Split P ⟨#[32]⟩ m w (by omega) hm (by decide)).mono ?_
  have hl : Lib.countB P ⟨#[32]⟩ + 1 = n := by
    rw [← hn, ← pcS_len, ← pcS_split]
    exact (Lib.splitB_all ⟨#[32]⟩ (by decide) 0 _ P rfl).symm
  rw [hl, pcS_split]
  rintro e w' ⟨rfl, rfl⟩
  refine ⟨_, rfl, fun i x hi => ?_, (Below.refl _ _).alloc (Nat.le_refl _) _⟩
  refine new_cell _ _ i _ ?_
  unfold pcS
  simp [hi]
end Go.Proofs.YtlmbcclggaflaaaGreatDoor
namespace Go.Proofs.YtlmbcclggaflaaaGreatDoor
open Go Go.RowKit

set_option maxRecDepth 100000 in
set_option maxHeartbeats 16000000 in
theorem walkOpWords (K Y Q T : Nat) (u : Value) (l : List UInt8) (hn : numOK K Y Q T) (kd : Int) (hkd : (Lit.int .i64 kd).wf = true) (m : Int) (w : World) (hu : BytesAt w u l) (ht : Tab w) (he : Errs w) (hm : w.cell? ⟨0, 0, none⟩ = some (.int .i64 m)) :
    Calls Tryz.prog 9 #[numV K Y Q T u, .int .i64 kd] w fun e w' => e = .returned (.bool true) ∧ Below w.heap.size w w' := by
  obtain ⟨i0, hi0, hz0, hz1, hz2⟩ := info_parts infoStr
  have HE : Hid (Env m w) := ⟨ht, he, hm⟩
  have HN := Lib.hid hn
  obtain ⟨k, a, b, x, v, ho, hg, hf⟩ := made_op K Y Q T l
  have HO := Lib.hid ho
  have HG := Lib.hid hg
  have HF := Lib.hid hf
  have c1 := Lib.hid ((Below.refl w.heap.size w).alloc (Nat.le_refl _) (.cells #[.int .u8 K, .int .u8 Y, .int .u8 Q, .int .u32 T, u] 25))
  have HU := Lib.hid (hu.below c1.out)
  have HNB := Lib.hid (NumBox.new w K Y Q T u 25)
  obtain ⟨n0, n1, n2, n3, n4⟩ := HNB.out
  clear ht he hm hn hu ho hg hf
  go_enter Tryz.func9, Tryz.ntmps9
  go_wp2_with fail
  clear n0 n1 n2 n3 n4
  generalize (w.alloc (.cells #[.int .u8 K, .int .u8 Y, .int .u8 Q, .int .u32 T, u] 25)) = w0 at *
  have h00 : Hid (w0.ownsRow w0.heap.size 9 1 (.slice none 0 0) 0 (strCellsL (wordsK 0))) := World.ownsRow_nil _ _ _ _
  go_loopw [5, 6] (fun v5 s6 wr => ∃ (i : Nat) (j : Int) (u5 : Value), i ≤ 8 ∧ j = (i : Int) + 1 ∧ s6 = .int .i64 j ∧ u5 = v5 ∧ Hid (wr.ownsRow w0.heap.size 9 1 u5 i (strCellsL (wordsK i))) ∧ Hid (Below w0.heap.size w0 wr)) (fun _ s6 _ => 9 - (intOf s6).toNat)
  case atStart => exact ⟨0, 1, _, Nat.zero_le _, rfl, rfl, rfl, h00, Lib.hid (Below.refl _ _)⟩
  case round =>
    clear h00
    have c0 := Lib.hid c1.out
    clear c1
    obtain ⟨i, j, u5, hi, hj, rfl, rfl, hr, c1⟩ := hrel
    rcases (show i = 0 ∨ i = 1 ∨ i = 2 ∨ i = 3 ∨ i = 4 ∨ i = 5 ∨ i = 6 ∨ i = 7 ∨ i = 8 by omega) with rfl | rfl | rfl | rfl | rfl | rfl | rfl | rfl | rfl
    · obtain rfl : j = 1 := by omega
      clear hi hj
      have hf := words_facts 0 (by decide)
      have hnew := wordsK_new 0 (by decide)
      have hsn := wordsK_succ 0
      obtain ⟨W, hW⟩ : ∃ W, pack (wordL (1)) = W := ⟨_, rfl⟩
      replace hf : (pack (wordL (1))).data.toList ≠ [] ∧ Lib.indexByte (pack (wordL (1))).data.toList 32 = -1 := hf
      replace hnew : Lib.containsS (wordsK 0) (pack (wordL (1))) = false := hnew
      replace hsn : wordsK (0 + 1) = wordsK 0 ++ [pack (wordL (1))] := hsn
      rw [hW] at hf hnew hsn
      have hne : W.toList.isEmpty = false := by
        rw [List.isEmpty_eq_false_iff]
        rw [ByteArray.toList_eq]
        exact hf.1
      have HI := Lib.hid hf.2
      have HNW := Lib.hid hnew
      have HSN := Lib.hid hsn
      have HWW := Lib.hid hW
      have HU : Hid (updB 1 = true) := by show _ = _; decide
      clear hf hnew hsn hW
      go_wp2_with fail
      refine (word_any 1 _).mono ?_
      rw [HWW.out]
      rintro e w5 ⟨rfl, b1⟩
      have hr2 := Lib.hid (own_below hr.out b1)
      have c2 := Lib.hid (c1.out.trans (b1.mono c1.out.size))
      clear c1
      have c1 := Lib.hid c2.out
      clear c2
      clear b1 hr
      go_wp2_with fail
      refine (containsW (wordsK 0) 0 w0.heap.size _ W _ (wordsK_len _) (by decide) hr2.out).mono ?_
      rw [HNW.out]
      rintro e w6 ⟨rfl, rfl⟩
      go_wp2_with fail
      refine (Tryz.strings_Contains_one W 32 _).mono ?_
      rw [HI.out]
      rintro e w7 ⟨rfl, rfl⟩
      go_wp2_with fail
      refine (upd_b 1 _).mono ?_
      rw [HU.out]
      rintro e w8 ⟨rfl, b1⟩
      have hr3 := Lib.hid (own_below hr2.out b1)
      have c2 := Lib.hid (c1.out.trans (b1.mono c1.out.size))
      clear c1
      have c1 := Lib.hid c2.out
      clear c2
      clear b1 hr2
      go_wp2_with (at_builtin; refine wpList_append_own _ rfl (.tmp 43) (.tmp 45) 50 rfl w0.heap.size 9 i0 (.string ⟨#[]⟩) 1 16 Tryz.underlying50 hi0 hz0 hz1 hz2 rfl (by decide) _ _ _ rfl (hr3.out.alloc _) ⟨w8.heap.size, 0, none⟩ 1 1 [.string W] rfl rfl (cell_one_new _ _ _) (fun q hq => by simp at hq; subst hq; rfl) (by unfold maxLen; omega) (by omega) (by have := c1.out.size; simp; omega) ?_)
      intro v' w9 hown hgrow _
      have HR2 : Hid (w9.ownsRow w0.heap.size 9 1 v' (0 + 1) (strCellsL (wordsK (0 + 1)))) := by
        show World.ownsRow _ _ _ _ _ _ _
        rw [HSN.out, ← strCellsL_snoc]
        exact hown
      have c5 := Lib.hid ((c1.out.alloc c1.out.size _).grown hgrow (by have := c1.out.size; simp; omega) (fun k hk => (hr3.out.lt k hk).1))
      clear hown hgrow hr3 c1
      go_wp2_with fail
      go_roundw
      case rel => exact ⟨0 + 1, 1 + 1, _, by omega, by omega, rfl, rfl, HR2, c5⟩
      case measure => simp [intOf]
    · obtain rfl : j = 2 := by omega
      clear hi hj
      have hf := words_facts 1 (by decide)
      have hnew := wordsK_new 1 (by decide)
      have hsn := wordsK_succ 1
      obtain ⟨W, hW⟩ : ∃ W, pack (wordL (2)) = W := ⟨_, rfl⟩
      replace hf : (pack (wordL (2))).data.toList ≠ [] ∧ Lib.indexByte (pack (wordL (2))).data.toList 32 = -1 := hf
      replace hnew : Lib.containsS (wordsK 1) (pack (wordL (2))) = false := hnew
      replace hsn : wordsK (1 + 1) = wordsK 1 ++ [pack (wordL (2))] := hsn
      rw [hW] at hf hnew hsn
      have hne : W.toList.isEmpty = false := by
        rw [List.isEmpty_eq_false_iff]
        rw [ByteArray.toList_eq]
        exact hf.1
      have HI := Lib.hid hf.2
      have HNW := Lib.hid hnew
      have HSN := Lib.hid hsn
      have HWW := Lib.hid hW
      have HU : Hid (updB 2 = false) := by show _ = _; decide
      clear hf hnew hsn hW
      go_wp2_with fail
      refine (word_any 2 _).mono ?_
      rw [HWW.out]
      rintro e w5 ⟨rfl, b1⟩
      have hr2 := Lib.hid (own_below hr.out b1)
      have c2 := Lib.hid (c1.out.trans (b1.mono c1.out.size))
      clear c1
      have c1 := Lib.hid c2.out
      clear c2
      clear b1 hr
      go_wp2_with fail
      refine (containsW (wordsK 1) 1 w0.heap.size _ W _ (wordsK_len _) (by decide) hr2.out).mono ?_
      rw [HNW.out]
      rintro e w6 ⟨rfl, rfl⟩
      go_wp2_with fail
      refine (Tryz.strings_Contains_one W 32 _).mono ?_
      rw [HI.out]
      rintro e w7 ⟨rfl, rfl⟩
      go_wp2_with fail
      refine (upd_b 2 _).mono ?_
      rw [HU.out]
      rintro e w8 ⟨rfl, b1⟩
      have hr3 := Lib.hid (own_below hr2.out b1)
      have c2 := Lib.hid (c1.out.trans (b1.mono c1.out.size))
      clear c1
      have c1 := Lib.hid c2.out
      clear c2
      clear b1 hr2
      go_wp2_with (at_builtin; refine wpList_append_own _ rfl (.tmp 43) (.tmp 45) 50 rfl w0.heap.size 9 i0 (.string ⟨#[]⟩) 1 16 Tryz.underlying50 hi0 hz0 hz1 hz2 rfl (by decide) _ _ _ rfl (hr3.out.alloc _) ⟨w8.heap.size, 0, none⟩ 1 1 [.string W] rfl rfl (cell_one_new _ _ _) (fun q hq => by simp at hq; subst hq; rfl) (by unfold maxLen; omega) (by omega) (by have := c1.out.size; simp; omega) ?_)
      intro v' w9 hown hgrow _
      have HR2 : Hid (w9.ownsRow w0.heap.size 9 1 v' (1 + 1) (strCellsL (wordsK (1 + 1)))) := by
        show World.ownsRow _ _ _ _ _ _ _
        rw [HSN.out, ← strCellsL_snoc]
        exact hown
      have c5 := Lib.hid ((c1.out.alloc c1.out.size _).grown hgrow (by have := c1.out.size; simp; omega) (fun k hk => (hr3.out.lt k hk).1))
      clear hown hgrow hr3 c1
      go_wp2_with fail
      go_roundw
      case rel => exact ⟨1 + 1, 2 + 1, _, by omega, by omega, rfl, rfl, HR2, c5⟩
      case measure => simp [intOf]
    · obtain rfl : j = 3 := by omega
      clear hi hj
      have hf := words_facts 2 (by decide)
      have hnew := wordsK_new 2 (by decide)
      have hsn := wordsK_succ 2
      obtain ⟨W, hW⟩ : ∃ W, pack (wordL (3)) = W := ⟨_, rfl⟩
      replace hf : (pack (wordL (3))).data.toList ≠ [] ∧ Lib.indexByte (pack (wordL (3))).data.toList 32 = -1 := hf
      replace hnew : Lib.containsS (wordsK 2) (pack (wordL (3))) = false := hnew
      replace hsn : wordsK (2 + 1) = wordsK 2 ++ [pack (wordL (3))] := hsn
      rw [hW] at hf hnew hsn
      have hne : W.toList.isEmpty = false := by
        rw [List.isEmpty_eq_false_iff]
        rw [ByteArray.toList_eq]
        exact hf.1
      have HI := Lib.hid hf.2
      have HNW := Lib.hid hnew
      have HSN := Lib.hid hsn
      have HWW := Lib.hid hW
      have HU : Hid (updB 3 = true) := by show _ = _; decide
      clear hf hnew hsn hW
      go_wp2_with fail
      refine (word_any 3 _).mono ?_
      rw [HWW.out]
      rintro e w5 ⟨rfl, b1⟩
      have hr2 := Lib.hid (own_below hr.out b1)
      have c2 := Lib.hid (c1.out.trans (b1.mono c1.out.size))
      clear c1
      have c1 := Lib.hid c2.out
      clear c2
      clear b1 hr
      go_wp2_with fail
      refine (containsW (wordsK 2) 2 w0.heap.size _ W _ (wordsK_len _) (by decide) hr2.out).mono ?_
      rw [HNW.out]
      rintro e w6 ⟨rfl, rfl⟩
      go_wp2_with fail
      refine (Tryz.strings_Contains_one W 32 _).mono ?_
      rw [HI.out]
      rintro e w7 ⟨rfl, rfl⟩
      go_wp2_with fail
      refine (upd_b 3 _).mono ?_
      rw [HU.out]
      rintro e w8 ⟨rfl, b1⟩
      have hr3 := Lib.hid (own_below hr2.out b1)
      have c2 := Lib.hid (c1.out.trans (b1.mono c1.out.size))
      clear c1
      have c1 := Lib.hid c2.out
      clear c2
      clear b1 hr2
      go_wp2_with (at_builtin; refine wpList_append_own _ rfl (.tmp 43) (.tmp 45) 50 rfl w0.heap.size 9 i0 (.string ⟨#[]⟩) 1 16 Tryz.underlying50 hi0 hz0 hz1 hz2 rfl (by decide) _ _ _ rfl (hr3.out.alloc _) ⟨w8.heap.size, 0, none⟩ 1 1 [.string W] rfl rfl (cell_one_new _ _ _) (fun q hq => by simp at hq; subst hq; rfl) (by unfold maxLen; omega) (by omega) (by have := c1.out.size; simp; omega) ?_)
      intro v' w9 hown hgrow _
      have HR2 : Hid (w9.ownsRow w0.heap.size 9 1 v' (2 + 1) (strCellsL (wordsK (2 + 1)))) := by
        show World.ownsRow _ _ _ _ _ _ _
        rw [HSN.out, ← strCellsL_snoc]
        exact hown
      have c5 := Lib.hid ((c1.out.alloc c1.out.size _).grown hgrow (by have := c1.out.size; simp; omega) (fun k hk => (hr3.out.lt k hk).1))
      clear hown hgrow hr3 c1
      go_wp2_with fail
      go_roundw
      case rel => exact ⟨2 + 1, 3 + 1, _, by omega, by omega, rfl, rfl, HR2, c5⟩
      case measure => simp [intOf]
    · obtain rfl : j = 4 := by omega
      clear hi hj
      have hf := words_facts 3 (by decide)
      have hnew := wordsK_new 3 (by decide)
      have hsn := wordsK_succ 3
      obtain ⟨W, hW⟩ : ∃ W, pack (wordL (4)) = W := ⟨_, rfl⟩
      replace hf : (pack (wordL (4))).data.toList ≠ [] ∧ Lib.indexByte (pack (wordL (4))).data.toList 32 = -1 := hf
      replace hnew : Lib.containsS (wordsK 3) (pack (wordL (4))) = false := hnew
      replace hsn : wordsK (3 + 1) = wordsK 3 ++ [pack (wordL (4))] := hsn
      rw [hW] at hf hnew hsn
      have hne : W.toList.isEmpty = false := by
        rw [List.isEmpty_eq_false_iff]
        rw [ByteArray.toList_eq]
        exact hf.1
      have HI := Lib.hid hf.2
      have HNW := Lib.hid hnew
      have HSN := Lib.hid hsn
      have HWW := Lib.hid hW
      have HU : Hid (updB 4 = false) := by show _ = _; decide
      clear hf hnew hsn hW
      go_wp2_with fail
      refine (word_any 4 _).mono ?_
      rw [HWW.out]
      rintro e w5 ⟨rfl, b1⟩
      have hr2 := Lib.hid (own_below hr.out b1)
      have c2 := Lib.hid (c1.out.trans (b1.mono c1.out.size))
      clear c1
      have c1 := Lib.hid c2.out
      clear c2
      clear b1 hr
      go_wp2_with fail
      refine (containsW (wordsK 3) 3 w0.heap.size _ W _ (wordsK_len _) (by decide) hr2.out).mono ?_
      rw [HNW.out]
      rintro e w6 ⟨rfl, rfl⟩
      go_wp2_with fail
      refine (Tryz.strings_Contains_one W 32 _).mono ?_
      rw [HI.out]
      rintro e w7 ⟨rfl, rfl⟩
      go_wp2_with fail
      refine (upd_b 4 _).mono ?_
      rw [HU.out]
      rintro e w8 ⟨rfl, b1⟩
      have hr3 := Lib.hid (own_below hr2.out b1)
      have c2 := Lib.hid (c1.out.trans (b1.mono c1.out.size))
      clear c1
      have c1 := Lib.hid c2.out
      clear c2
      clear b1 hr2
      go_wp2_with (at_builtin; refine wpList_append_own _ rfl (.tmp 43) (.tmp 45) 50 rfl w0.heap.size 9 i0 (.string ⟨#[]⟩) 1 16 Tryz.underlying50 hi0 hz0 hz1 hz2 rfl (by decide) _ _ _ rfl (hr3.out.alloc _) ⟨w8.heap.size, 0, none⟩ 1 1 [.string W] rfl rfl (cell_one_new _ _ _) (fun q hq => by simp at hq; subst hq; rfl) (by unfold maxLen; omega) (by omega) (by have := c1.out.size; simp; omega) ?_)
      intro v' w9 hown hgrow _
      have HR2 : Hid (w9.ownsRow w0.heap.size 9 1 v' (3 + 1) (strCellsL (wordsK (3 + 1)))) := by
        show World.ownsRow _ _ _ _ _ _ _
        rw [HSN.out, ← strCellsL_snoc]
        exact hown
      have c5 := Lib.hid ((c1.out.alloc c1.out.size _).grown hgrow (by have := c1.out.size; simp; omega) (fun k hk => (hr3.out.lt k hk).1))
      clear hown hgrow hr3 c1
      go_wp2_with fail
      go_roundw
      case rel => exact ⟨3 + 1, 4 + 1, _, by omega, by omega, rfl, rfl, HR2, c5⟩
      case measure => simp [intOf]
    · obtain rfl : j = 5 := by omega
      clear hi hj
      have hf := words_facts 4 (by decide)
      have hnew := wordsK_new 4 (by decide)
      have hsn := wordsK_succ 4
      obtain ⟨W, hW⟩ : ∃ W, pack (wordL (5)) = W := ⟨_, rfl⟩
      replace hf : (pack (wordL (5))).data.toList ≠ [] ∧ Lib.indexByte (pack (wordL (5))).data.toList 32 = -1 := hf
      replace hnew : Lib.containsS (wordsK 4) (pack (wordL (5))) = false := hnew
      replace hsn : wordsK (4 + 1) = wordsK 4 ++ [pack (wordL (5))] := hsn
      rw [hW] at hf hnew hsn
      have hne : W.toList.isEmpty = false := by
        rw [List.isEmpty_eq_false_iff]
        rw [ByteArray.toList_eq]
        exact hf.1
      have HI := Lib.hid hf.2
      have HNW := Lib.hid hnew
      have HSN := Lib.hid hsn
      have HWW := Lib.hid hW
      have HU : Hid (updB 5 = false) := by show _ = _; decide
      clear hf hnew hsn hW
      go_wp2_with fail
      refine (word_any 5 _).mono ?_
      rw [HWW.out]
      rintro e w5 ⟨rfl, b1⟩
      have hr2 := Lib.hid (own_below hr.out b1)
      have c2 := Lib.hid (c1.out.trans (b1.mono c1.out.size))
      clear c1
      have c1 := Lib.hid c2.out
      clear c2
      clear b1 hr
      go_wp2_with fail
      refine (containsW (wordsK 4) 4 w0.heap.size _ W _ (wordsK_len _) (by decide) hr2.out).mono ?_
      rw [HNW.out]
      rintro e w6 ⟨rfl, rfl⟩
      go_wp2_with fail
      refine (Tryz.strings_Contains_one W 32 _).mono ?_
      rw [HI.out]
      rintro e w7 ⟨rfl, rfl⟩
      go_wp2_with fail
      refine (upd_b 5 _).mono ?_
      rw [HU.out]
      rintro e w8 ⟨rfl, b1⟩
      have hr3 := Lib.hid (own_below hr2.out b1)
      have c2 := Lib.hid (c1.out.trans (b1.mono c1.out.size))
      clear c1
      have c1 := Lib.hid c2.out
      clear c2
      clear b1 hr2
      go_wp2_with (at_builtin; refine wpList_append_own _ rfl (.tmp 43) (.tmp 45) 50 rfl w0.heap.size 9 i0 (.string ⟨#[]⟩) 1 16 Tryz.underlying50 hi0 hz0 hz1 hz2 rfl (by decide) _ _ _ rfl (hr3.out.alloc _) ⟨w8.heap.size, 0, none⟩ 1 1 [.string W] rfl rfl (cell_one_new _ _ _) (fun q hq => by simp at hq; subst hq; rfl) (by unfold maxLen; omega) (by omega) (by have := c1.out.size; simp; omega) ?_)
      intro v' w9 hown hgrow _
      have HR2 : Hid (w9.ownsRow w0.heap.size 9 1 v' (4 + 1) (strCellsL (wordsK (4 + 1)))) := by
        show World.ownsRow _ _ _ _ _ _ _
        rw [HSN.out, ← strCellsL_snoc]
        exact hown
      have c5 := Lib.hid ((c1.out.alloc c1.out.size _).grown hgrow (by have := c1.out.size; simp; omega) (fun k hk => (hr3.out.lt k hk).1))
      clear hown hgrow hr3 c1
      go_wp2_with fail
      go_roundw
      case rel => exact ⟨4 + 1, 5 + 1, _, by omega, by omega, rfl, rfl, HR2, c5⟩
      case measure => simp [intOf]
    · obtain rfl : j = 6 := by omega
      clear hi hj
      have hf := words_facts 5 (by decide)
      have hnew := wordsK_new 5 (by decide)
      have hsn := wordsK_succ 5
      obtain ⟨W, hW⟩ : ∃ W, pack (wordL (6)) = W := ⟨_, rfl⟩
      replace hf : (pack (wordL (6))).data.toList ≠ [] ∧ Lib.indexByte (pack (wordL (6))).data.toList 32 = -1 := hf
      replace hnew : Lib.containsS (wordsK 5) (pack (wordL (6))) = false := hnew
      replace hsn : wordsK (5 + 1) = wordsK 5 ++ [pack (wordL (6))] := hsn
      rw [hW] at hf hnew hsn
      have hne : W.toList.isEmpty = false := by
        rw [List.isEmpty_eq_false_iff]
        rw [ByteArray.toList_eq]
        exact hf.1
      have HI := Lib.hid hf.2
      have HNW := Lib.hid hnew
      have HSN := Lib.hid hsn
      have HWW := Lib.hid hW
      have HU : Hid (updB 6 = false) := by show _ = _; decide
      clear hf hnew hsn hW
      go_wp2_with fail
      refine (word_any 6 _).mono ?_
      rw [HWW.out]
      rintro e w5 ⟨rfl, b1⟩
      have hr2 := Lib.hid (own_below hr.out b1)
      have c2 := Lib.hid (c1.out.trans (b1.mono c1.out.size))
      clear c1
      have c1 := Lib.hid c2.out
      clear c2
      clear b1 hr
      go_wp2_with fail
      refine (containsW (wordsK 5) 5 w0.heap.size _ W _ (wordsK_len _) (by decide) hr2.out).mono ?_
      rw [HNW.out]
      rintro e w6 ⟨rfl, rfl⟩
      go_wp2_with fail
      refine (Tryz.strings_Contains_one W 32 _).mono ?_
      rw [HI.out]
      rintro e w7 ⟨rfl, rfl⟩
      go_wp2_with fail
      refine (upd_b 6 _).mono ?_
      rw [HU.out]
      rintro e w8 ⟨rfl, b1⟩
      have hr3 := Lib.hid (own_below hr2.out b1)
      have c2 := Lib.hid (c1.out.trans (b1.mono c1.out.size))
      clear c1
      have c1 := Lib.hid c2.out
      clear c2
      clear b1 hr2
      go_wp2_with (at_builtin; refine wpList_append_own _ rfl (.tmp 43) (.tmp 45) 50 rfl w0.heap.size 9 i0 (.string ⟨#[]⟩) 1 16 Tryz.underlying50 hi0 hz0 hz1 hz2 rfl (by decide) _ _ _ rfl (hr3.out.alloc _) ⟨w8.heap.size, 0, none⟩ 1 1 [.string W] rfl rfl (cell_one_new _ _ _) (fun q hq => by simp at hq; subst hq; rfl) (by unfold maxLen; omega) (by omega) (by have := c1.out.size; simp; omega) ?_)
      intro v' w9 hown hgrow _
      have HR2 : Hid (w9.ownsRow w0.heap.size 9 1 v' (5 + 1) (strCellsL (wordsK (5 + 1)))) := by
        show World.ownsRow _ _ _ _ _ _ _
        rw [HSN.out, ← strCellsL_snoc]
        exact hown
      have c5 := Lib.hid ((c1.out.alloc c1.out.size _).grown hgrow (by have := c1.out.size; simp; omega) (fun k hk => (hr3.out.lt k hk).1))
      clear hown hgrow hr3 c1
      go_wp2_with fail
      go_roundw
      case rel => exact ⟨5 + 1, 6 + 1, _, by omega, by omega, rfl, rfl, HR2, c5⟩
      case measure => simp [intOf]
    · obtain rfl : j = 7 := by omega
      clear hi hj
      have hf := words_facts 6 (by decide)
      have hnew := wordsK_new 6 (by decide)
      have hsn := wordsK_succ 6
      obtain ⟨W, hW⟩ : ∃ W, pack (wordL (7)) = W := ⟨_, rfl⟩
      replace hf : (pack (wordL (7))).data.toList ≠ [] ∧ Lib.indexByte (pack (wordL (7))).data.toList 32 = -1 := hf
      replace hnew : Lib.containsS (wordsK 6) (pack (wordL (7))) = false := hnew
      replace hsn : wordsK (6 + 1) = wordsK 6 ++ [pack (wordL (7))] := hsn
      rw [hW] at hf hnew hsn
      have hne : W.toList.isEmpty = false := by
        rw [List.isEmpty_eq_false_iff]
        rw [ByteArray.toList_eq]
        exact hf.1
      have HI := Lib.hid hf.2
      have HNW := Lib.hid hnew
      have HSN := Lib.hid hsn
      have HWW := Lib.hid hW
      have HU : Hid (updB 7 = false) := by show _ = _; decide
      clear hf hnew hsn hW
      go_wp2_with fail
      refine (word_any 7 _).mono ?_
      rw [HWW.out]
      rintro e w5 ⟨rfl, b1⟩
      have hr2 := Lib.hid (own_below hr.out b1)
      have c2 := Lib.hid (c1.out.trans (b1.mono c1.out.size))
      clear c1
      have c1 := Lib.hid c2.out
      clear c2
      clear b1 hr
      go_wp2_with fail
      refine (containsW (wordsK 6) 6 w0.heap.size _ W _ (wordsK_len _) (by decide) hr2.out).mono ?_
      rw [HNW.out]
      rintro e w6 ⟨rfl, rfl⟩
      go_wp2_with fail
      refine (Tryz.strings_Contains_one W 32 _).mono ?_
      rw [HI.out]
      rintro e w7 ⟨rfl, rfl⟩
      go_wp2_with fail
      refine (upd_b 7 _).mono ?_
      rw [HU.out]
      rintro e w8 ⟨rfl, b1⟩
      have hr3 := Lib.hid (own_below hr2.out b1)
      have c2 := Lib.hid (c1.out.trans (b1.mono c1.out.size))
      clear c1
      have c1 := Lib.hid c2.out
      clear c2
      clear b1 hr2
      go_wp2_with (at_builtin; refine wpList_append_own _ rfl (.tmp 43) (.tmp 45) 50 rfl w0.heap.size 9 i0 (.string ⟨#[]⟩) 1 16 Tryz.underlying50 hi0 hz0 hz1 hz2 rfl (by decide) _ _ _ rfl (hr3.out.alloc _) ⟨w8.heap.size, 0, none⟩ 1 1 [.string W] rfl rfl (cell_one_new _ _ _) (fun q hq => by simp at hq; subst hq; rfl) (by unfold maxLen; omega) (by omega) (by have := c1.out.size; simp; omega) ?_)
      intro v' w9 hown hgrow _
      have HR2 : Hid (w9.ownsRow w0.heap.size 9 1 v' (6 + 1) (strCellsL (wordsK (6 + 1)))) := by
        show World.ownsRow _ _ _ _ _ _ _
        rw [HSN.out, ← strCellsL_snoc]
        exact hown
      have c5 := Lib.hid ((c1.out.alloc c1.out.size _).grown hgrow (by have := c1.out.size; simp; omega) (fun k hk => (hr3.out.lt k hk).1))
      clear hown hgrow hr3 c1
      go_wp2_with fail
      go_roundw
      case rel => exact ⟨6 + 1, 7 + 1, _, by omega, by omega, rfl, rfl, HR2, c5⟩
      case measure => simp [intOf]
    · obtain rfl : j = 8 := by omega
      clear hi hj
      have hf := words_facts 7 (by decide)
      have hnew := wordsK_new 7 (by decide)
      have hsn := wordsK_succ 7
      obtain ⟨W, hW⟩ : ∃ W, pack (wordL (8)) = W := ⟨_, rfl⟩
      replace hf : (pack (wordL (8))).data.toList ≠ [] ∧ Lib.indexByte (pack (wordL (8))).data.toList 32 = -1 := hf
      replace hnew : Lib.containsS (wordsK 7) (pack (wordL (8))) = false := hnew
      replace hsn : wordsK (7 + 1) = wordsK 7 ++ [pack (wordL (8))] := hsn
      rw [hW] at hf hnew hsn
      have hne : W.toList.isEmpty = false := by
        rw [List.isEmpty_eq_false_iff]
        rw [ByteArray.toList_eq]
        exact hf.1
      have HI := Lib.hid hf.2
      have HNW := Lib.hid hnew
      have HSN := Lib.hid hsn
      have HWW := Lib.hid hW
      have HU : Hid (updB 8 = false) := by show _ = _; decide
      clear hf hnew hsn hW
      go_wp2_with fail
      refine (word_any 8 _).mono ?_
      rw [HWW.out]
      rintro e w5 ⟨rfl, b1⟩
      have hr2 := Lib.hid (own_below hr.out b1)
      have c2 := Lib.hid (c1.out.trans (b1.mono c1.out.size))
      clear c1
      have c1 := Lib.hid c2.out
      clear c2
      clear b1 hr
      go_wp2_with fail
      refine (containsW (wordsK 7) 7 w0.heap.size _ W _ (wordsK_len _) (by decide) hr2.out).mono ?_
      rw [HNW.out]
      rintro e w6 ⟨rfl, rfl⟩
      go_wp2_with fail
      refine (Tryz.strings_Contains_one W 32 _).mono ?_
      rw [HI.out]
      rintro e w7 ⟨rfl, rfl⟩
      go_wp2_with fail
      refine (upd_b 8 _).mono ?_
      rw [HU.out]
      rintro e w8 ⟨rfl, b1⟩
      have hr3 := Lib.hid (own_below hr2.out b1)
      have c2 := Lib.hid (c1.out.trans (b1.mono c1.out.size))
      clear c1
      have c1 := Lib.hid c2.out
      clear c2
      clear b1 hr2
      go_wp2_with (at_builtin; refine wpList_append_own _ rfl (.tmp 43) (.tmp 45) 50 rfl w0.heap.size 9 i0 (.string ⟨#[]⟩) 1 16 Tryz.underlying50 hi0 hz0 hz1 hz2 rfl (by decide) _ _ _ rfl (hr3.out.alloc _) ⟨w8.heap.size, 0, none⟩ 1 1 [.string W] rfl rfl (cell_one_new _ _ _) (fun q hq => by simp at hq; subst hq; rfl) (by unfold maxLen; omega) (by omega) (by have := c1.out.size; simp; omega) ?_)
      intro v' w9 hown hgrow _
      have HR2 : Hid (w9.ownsRow w0.heap.size 9 1 v' (7 + 1) (strCellsL (wordsK (7 + 1)))) := by
        show World.ownsRow _ _ _ _ _ _ _
        rw [HSN.out, ← strCellsL_snoc]
        exact hown
      have c5 := Lib.hid ((c1.out.alloc c1.out.size _).grown hgrow (by have := c1.out.size; simp; omega) (fun k hk => (hr3.out.lt k hk).1))
      clear hown hgrow hr3 c1
      go_wp2_with fail
      go_roundw
      case rel => exact ⟨7 + 1, 8 + 1, _, by omega, by omega, rfl, rfl, HR2, c5⟩
      case measure => simp [intOf]
    · obtain rfl : j = 9 := by omega
      clear hi hj
      have H8 := Lib.hid hr.out
      have HNB2 := Lib.hid (HNB.out.below c1.out)
      have HU2 := Lib.hid (HU.out.below c1.out)
      have c2 := Lib.hid (c0.out.trans (c1.out.mono c0.out.size))
      clear hr HNB HU c0 c1
      have c1 := Lib.hid c2.out
      clear c2
      go_upto_region 9 with fail
      go_cut [61] from 47 to 61 (fun t61 wx => t61 = .bool false ∧ Hid (Below wr.heap.size wr wx))
      case first =>
        rcases (show kd < 1 ∨ (1 ≤ kd ∧ 8 < kd) ∨ (1 ≤ kd ∧ kd ≤ 8) by omega) with h | ⟨h, h'⟩ | ⟨h, h'⟩
        · have d1 : decide (kd < 1) = true := decide_eq_true h
          have hw := word_none (k := kd) (Or.inl h)
          have HW := Lib.hid hw
          clear h hw
          go_wp2_with fail
          refine (word_any kd _).mono ?_
          rw [HW.out.1, show pack [] = (⟨#[]⟩ : ByteArray) from rfl]
          rintro e w2 ⟨rfl, b2⟩
          go_wp2_with fail
          refine (upd_b kd _).mono ?_
          rw [HW.out.2]
          rintro e w3 ⟨rfl, b3⟩
          go_wp2_with fail
          go_meet
          exact ⟨rfl, Lib.hid (b2.trans (b3.mono b2.size))⟩
        · have d1 : decide (kd < 1) = false := decide_eq_false (by omega)
          have d2 : decide (8 < kd) = true := decide_eq_true h'
          have hw := word_none (k := kd) (Or.inr h')
          have HW := Lib.hid hw
          clear h h' hw
          go_wp2_with fail
          refine (word_any kd _).mono ?_
          rw [HW.out.1, show pack [] = (⟨#[]⟩ : ByteArray) from rfl]
          rintro e w2 ⟨rfl, b2⟩
          go_wp2_with fail
          refine (upd_b kd _).mono ?_
          rw [HW.out.2]
          rintro e w3 ⟨rfl, b3⟩
          go_wp2_with fail
          go_meet
          exact ⟨rfl, Lib.hid (b2.trans (b3.mono b2.size))⟩
        · have d1 : decide (kd < 1) = false := decide_eq_false (by omega)
          have d2 : decide (8 < kd) = false := decide_eq_false (by omega)
          clear h h'
          go_wp2_with fail
          go_meet
          exact ⟨rfl, Lib.hid (Below.refl _ _)⟩
      case rest =>
        obtain ⟨rfl, hB⟩ := hcut
        have H9 := Lib.hid (own_below H8.out hB.out)
        have HNB3 := Lib.hid (HNB2.out.below hB.out)
        have HU3 := Lib.hid (HU2.out.below hB.out)
        have c2 := Lib.hid (c1.out.trans (hB.out.mono c1.out.size))
        clear c1 hB H8 HNB2 HU2
        have c1 := Lib.hid c2.out
        clear c2
        obtain ⟨gw, cw, hv5⟩ : ∃ gw cw, u5 = .slice (some ⟨gw, 0, none⟩) 8 cw := by
          rcases H9.out.2 with ⟨_, h0⟩ | ⟨g, cap, cur, hv, _⟩
          · omega
          · exact ⟨g, cap, hv⟩
        subst hv5
        have HWC : Hid (∀ i : Nat, i < 8 → wc.cell? ⟨gw, i, none⟩ = some (.string (pack (wordL ((i : Int) + 1))))) := fun i hi => own_cellS H9.out i _ (wordsK_get 8 i hi)
        clear H9
        obtain ⟨n0, n1, n2, n3, n4⟩ := HNB3.out
        go_wp2_with fail
        refine (made_is K Y Q T HN.out u l _ HU3.out (HE.out.below c1.out).1 k a b x v HO.out).mono ?_
        rintro e w1 ⟨rfl, b1⟩
        have HWC1 : Hid (∀ i : Nat, i < 8 → w1.cell? ⟨gw, i, none⟩ = some (.string (pack (wordL ((i : Int) + 1))))) := fun i hi => cell_kept (HWC.out i hi) b1
        have c2 := Lib.hid (c1.out.trans (b1.mono c1.out.size))
        clear c1
        have c1 := Lib.hid c2.out
        clear c2
        clear b1 n0 n1 n2 n3 n4 HNB3 HU3 HWC
        have HC := Lib.hid (OpBox.new w1 k a b x v 28)
        have b1 := (Below.refl w1.heap.size w1).alloc (Nat.le_refl _) (.cells #[.int .i64 k, .int .i64 a, .int .i64 b, .string x, .string v] 28)
        have c2 := Lib.hid (c1.out.trans (b1.mono c1.out.size))
        clear c1
        have c1 := Lib.hid c2.out
        clear c2
        obtain ⟨⟨k0, k1, k2, k3, k4⟩, kf⟩ := HC.out
        clear kf
        go_wp2_with fail
        have HWC2 : Hid (∀ i : Nat, i < 8 → (w1.alloc (.cells #[.int .i64 k, .int .i64 a, .int .i64 b, .string x, .string v] 28)).cell? ⟨gw, i, none⟩ = some (.string (pack (wordL ((i : Int) + 1))))) := fun i hi => cell_kept (HWC1.out i hi) b1
        clear HWC1 b1
        generalize (w1.alloc (.cells #[.int .i64 k, .int .i64 a, .int .i64 b, .string x, .string v] 28)) = w2 at *
        obtain ⟨D, hD⟩ : ∃ D, w1.heap.size = D := ⟨_, rfl⟩
        rw [hD] at HC k0 k1 k2 k3 k4
        rw [hD]
        clear hD
        obtain ⟨P, hP⟩ : ∃ P, prT ⟨k, a, b, x, v⟩ = P := ⟨_, rfl⟩
        have hpr := pr_good HG.out
        rw [hP] at hpr
        have hPd : P.data.toList = opT ⟨k, a, b, x, v⟩ := by rw [hpr.1, pack_data]
        have hPs : P.size ≤ 100000 := by
          rw [← str_len, hPd]
          have := opT_len HG.out
          omega
        refine (print_any k a b x v HF.out m _ (HE.out.below c1.out)).mono ?_
        rw [hP, hpr.2]
        clear hP hpr
        rintro e w3 ⟨rfl, b1⟩
        have HWC3 : Hid (∀ i : Nat, i < 8 → w3.cell? ⟨gw, i, none⟩ = some (.string (pack (wordL ((i : Int) + 1))))) := fun i hi => cell_kept (HWC2.out i hi) b1
        have c2 := Lib.hid (c1.out.trans (b1.mono c1.out.size))
        clear c1
        have c1 := Lib.hid c2.out
        clear c2
        have hh := Lib.hid (HC.out.below b1)
        clear HC
        have HC := Lib.hid hh.out
        clear hh
        clear b1 k0 k1 k2 k3 k4 HWC2
        obtain ⟨n, hn⟩ : ∃ n, (pc 32 P.data.toList).length = n := ⟨_, rfl⟩
        have HPD := Lib.hid (And.intro hPd (And.intro hPs hn))
        clear hPd hPs hn
        go_wp2_with fail
        refine (split_is P HPD.out.2.1 n HPD.out.2.2 m _ (HE.out.below c1.out).2.2).mono ?_
        rintro e w4 ⟨gp, rfl, hpc, b1⟩
        have HPC := Lib.hid hpc
        have HWC4 : Hid (∀ i : Nat, i < 8 → w4.cell? ⟨gw, i, none⟩ = some (.string (pack (wordL ((i : Int) + 1))))) := fun i hi => cell_kept (HWC3.out i hi) b1
        have c2 := Lib.hid (c1.out.trans (b1.mono c1.out.size))
        clear c1
        have c1 := Lib.hid c2.out
        clear c2
        have hh := Lib.hid (HC.out.below b1)
        clear HC
        have HC := Lib.hid hh.out
        clear hh
        clear b1 hpc HWC3
        go_upto_region 14 with fail
        obtain ⟨W0, hW0⟩ : ∃ W0, pack (wordL k) = W0 := ⟨_, rfl⟩
        have HW0 := Lib.hid hW0
        have hgk := good_kind HG.out
        replace hgk : 1 ≤ k ∧ k ≤ 8 := hgk
        obtain ⟨kn, hkn, hkn2⟩ : ∃ kn : Nat, (kn : Int) + 1 = k ∧ kn < 8 := ⟨(k - 1).toNat, by omega, by omega⟩
        have HKN := Lib.hid (And.intro hkn hkn2)
        have hpp : (pc 32 P.data.toList)[0]? = some (wordL k) := by
          rw [HPD.out.1]
          obtain ⟨r, hr⟩ := pieces_any _ HG.out
          rw [hr]
          rfl
        have HPP := Lib.hid hpp
        have h0n : 0 < n := by
          rw [← HPD.out.2.2]
          exact List.length_pos_iff.2 (pc_ne _)
        clear hW0 hgk hkn hkn2 hpp
        go_cut [102] from 71 to 102 (fun t102 wx => t102 = .bool false ∧ Hid (Below w4.heap.size w4 wx))
        case first =>
          rcases (show k = 1 ∨ k = 3 ∨ (k ≠ 1 ∧ k ≠ 3) by omega) with h | h | ⟨h, h'⟩
          · obtain rfl : n = 3 := by
              rw [← HPD.out.2.2, HPD.out.1, pieces_put HG.out h]
              rfl
            have hp1 : w4.cell? ⟨gp, 1, none⟩ = some (.string x) := by
              have h2 := HPC.out 1 x.data.toList (by rw [HPD.out.1, pieces_put HG.out h]; rfl)
              rw [h2, data_pack]
            skip
            have hUK : updB k = true := by unfold updB; first | exact decide_eq_true (by omega) | exact decide_eq_false (by omega)
            have HUK := Lib.hid hUK
            clear hUK
            obtain ⟨⟨k0, k1, k2, k3, k4⟩, kf⟩ := HC.out
            clear kf k1 k2 k4
            have hw := HWC4.out kn HKN.out.2
            rw [HKN.out.1, HW0.out] at hw
            have hp0 := HPC.out 0 _ HPP.out
            rw [HW0.out] at hp0
            have hkn8 := HKN.out.2
            have hsub : IntKind.i64.wrap (k - 1) = (kn : Int) := by
              have h1 := HKN.out.1
              have h2 := HKN.out.2
              rw [IntWalk.i64_in _ (by omega)]
              omega
            have hsub2 : wrap64 (k - 1) = (kn : Int) := by
              have h1 := HKN.out.1
              have h2 := HKN.out.2
              unfold wrap64
              omega
            have hkn9 : (kn : Int) < 8 := by omega
            have hkn0 : (0 : Int) ≤ (kn : Int) := by omega
            have h0n2 : (0 : Int) < ((3 : Nat) : Int) := by omega
            have e1 : (W0.toList == W0.toList) = true := beq_self_eq_true _
            have e2 : (x.toList == x.toList) = true := beq_self_eq_true _
            clear h
            go_quiet ((go_at_call 38; exact Calls.quiet_of_same (upd_q k _ HUK.out _)))
            go_wp2_with fail
            go_meet
            exact ⟨rfl, Lib.hid ⟨rfl, rfl, rfl, Nat.le_refl _, fun _ _ => rfl⟩⟩
          · obtain rfl : n = 2 := by
              rw [← HPD.out.2.2, HPD.out.1, pieces_del HG.out h]
              rfl
            have hp1 : w4.cell? ⟨gp, 1, none⟩ = some (.string x) := by
              have h2 := HPC.out 1 x.data.toList (by rw [HPD.out.1, pieces_del HG.out h]; rfl)
              rw [h2, data_pack]
            skip
            have hUK : updB k = true := by unfold updB; first | exact decide_eq_true (by omega) | exact decide_eq_false (by omega)
            have HUK := Lib.hid hUK
            clear hUK
            obtain ⟨⟨k0, k1, k2, k3, k4⟩, kf⟩ := HC.out
            clear kf k1 k2 k4
            have hw := HWC4.out kn HKN.out.2
            rw [HKN.out.1, HW0.out] at hw
            have hp0 := HPC.out 0 _ HPP.out
            rw [HW0.out] at hp0
            have hkn8 := HKN.out.2
            have hsub : IntKind.i64.wrap (k - 1) = (kn : Int) := by
              have h1 := HKN.out.1
              have h2 := HKN.out.2
              rw [IntWalk.i64_in _ (by omega)]
              omega
            have hsub2 : wrap64 (k - 1) = (kn : Int) := by
              have h1 := HKN.out.1
              have h2 := HKN.out.2
              unfold wrap64
              omega
            have hkn9 : (kn : Int) < 8 := by omega
            have hkn0 : (0 : Int) ≤ (kn : Int) := by omega
            have h0n2 : (0 : Int) < ((2 : Nat) : Int) := by omega
            have e1 : (W0.toList == W0.toList) = true := beq_self_eq_true _
            have e2 : (x.toList == x.toList) = true := beq_self_eq_true _
            clear h
            go_quiet ((go_at_call 38; exact Calls.quiet_of_same (upd_q k _ HUK.out _)))
            go_wp2_with fail
            go_meet
            exact ⟨rfl, Lib.hid ⟨rfl, rfl, rfl, Nat.le_refl _, fun _ _ => rfl⟩⟩
          · skip
            have hUK : updB k = false := by unfold updB; first | exact decide_eq_true (by omega) | exact decide_eq_false (by omega)
            have HUK := Lib.hid hUK
            clear hUK
            obtain ⟨⟨k0, k1, k2, k3, k4⟩, kf⟩ := HC.out
            clear kf k1 k2 k4
            have hw := HWC4.out kn HKN.out.2
            rw [HKN.out.1, HW0.out] at hw
            have hp0 := HPC.out 0 _ HPP.out
            rw [HW0.out] at hp0
            have hkn8 := HKN.out.2
            have hsub : IntKind.i64.wrap (k - 1) = (kn : Int) := by
              have h1 := HKN.out.1
              have h2 := HKN.out.2
              rw [IntWalk.i64_in _ (by omega)]
              omega
            have hsub2 : wrap64 (k - 1) = (kn : Int) := by
              have h1 := HKN.out.1
              have h2 := HKN.out.2
              unfold wrap64
              omega
            have hkn9 : (kn : Int) < 8 := by omega
            have hkn0 : (0 : Int) ≤ (kn : Int) := by omega
            have h0n2 : (0 : Int) < ((n : Nat) : Int) := by omega
            have e1 : (W0.toList == W0.toList) = true := beq_self_eq_true _
            have e2 : (x.toList == x.toList) = true := beq_self_eq_true _
            clear h h'
            go_quiet ((go_at_call 38; exact Calls.quiet_of_same (upd_q k _ HUK.out _)))
            go_wp2_with fail
            go_meet
            exact ⟨rfl, Lib.hid ⟨rfl, rfl, rfl, Nat.le_refl _, fun _ _ => rfl⟩⟩
        case rest =>
          obtain ⟨rfl, hB⟩ := hcut
          have HC5 := Lib.hid (HC.out.below hB.out)
          have HPC5 : Hid (∀ i y, (pc 32 P.data.toList)[i]? = some y → wc.cell? ⟨gp, i, none⟩ = some (.string (pack y))) := fun i y hy => cell_kept (HPC.out i y hy) hB.out
          have c2 := Lib.hid (c1.out.trans (hB.out.mono c1.out.size))
          clear c1 hB HC HPC HWC4 HW0 HKN HPP
          have c1 := Lib.hid c2.out
          clear c2
          obtain ⟨⟨k0, k1, k2, k3, k4⟩, kf⟩ := HC5.out
          clear kf
          by_cases h1 : k = 1
          · have d1 : (k == 1) = true := by rw [beq_iff_eq]; exact h1
            obtain rfl : n = 3 := by
              rw [← HPD.out.2.2, HPD.out.1, pieces_put HG.out h1]
              rfl
            obtain ⟨Z, hZ⟩ : ∃ Z, pack (textV v.data.toList).1 = Z := ⟨_, rfl⟩
            have hp2 : wc.cell? ⟨gp, 2, none⟩ = some (.string Z) := by
              have h2 := HPC5.out 2 (textV v.data.toList).1 (by rw [HPD.out.1, pieces_put HG.out h1]; rfl)
              rw [h2, hZ]
            have hv512 : v.size ≤ 512 := by
              rcases HG.out with ⟨_, _, _, _, h⟩ | ⟨h, _⟩ | ⟨h, _⟩ | ⟨h, _⟩ | ⟨h, _⟩
              · exact h
              · have h : k = 2 ∨ k = 3 := h; omega
              · have h : k = 4 ∨ k = 5 ∨ k = 8 := h; omega
              · have h : k = 6 := h; omega
              · have h : k = 7 := h; omega
            have HZ := Lib.hid hZ
            have HV5 := Lib.hid hv512
            obtain ⟨C, hC⟩ : ∃ C, grownCap wc v.size 0 5 = C := ⟨_, rfl⟩
            have hcg := grownCap_ge wc v.size 0 5
            have hcv := run_bytes_of_string (P := Tryz.prog) wc 9 23 5 v Tryz.underlying9 Tryz.underlying23 Tryz.underlying5
            rw [hC] at hcg hcv
            have hby := BytesAt.of_string wc v 5 C hcg ((bytesRow v C).size, (bytesRow v C).size + 1)
            have b1 : Below wc.heap.size wc (wc.drew.alloc (.cells (bytesRow v C) 5 ((bytesRow v C).size, (bytesRow v C).size + 1))) := ((Below.refl wc.heap.size wc).drew).alloc (Nat.le_refl _) _
            have hby2 : BytesAt (wc.drew.alloc (.cells (bytesRow v C) 5 ((bytesRow v C).size, (bytesRow v C).size + 1))) (.slice (some ⟨wc.heap.size, 0, none⟩) v.size C) v.data.toList := hby
            obtain ⟨wB, hwB⟩ : ∃ wB, wc.drew.alloc (.cells (bytesRow v C) 5 ((bytesRow v C).size, (bytesRow v C).size + 1)) = wB := ⟨_, rfl⟩
            rw [hwB] at hcv b1 hby2
            have HBY := Lib.hid hby2
            have hp3 := cell_kept hp2 b1
            have HP3 := Lib.hid hp3
            have c2 := Lib.hid (c1.out.trans (b1.mono c1.out.size))
            clear c1
            have c1 := Lib.hid c2.out
            clear c2
            clear h1 hZ hv512 hC hcg hby hby2 hwB b1 hp2 hp3
            go_wp2_with fail
            go_loopw [12, 110] (fun v12 s110 wr => ∃ (i : Nat) (S : ByteArray), i ≤ v.size ∧ s110 = .int .i64 i ∧ v12 = .string S ∧ Hid (pack (hexL (v.data.toList.take i)) = S) ∧ Hid (Below wB.heap.size wB wr)) (fun _ s110 _ => v.size - (intOf s110).toNat)
            case atStart => exact ⟨0, ⟨#[]⟩, Nat.zero_le _, rfl, rfl, by rw [List.take_zero]; rfl, Lib.hid (Below.refl _ _)⟩
            case round =>
              have c0 := Lib.hid c1.out
              clear c1
              obtain ⟨i, S, hi, rfl, rfl, hS, c1⟩ := hrel
              by_cases hlt : i < v.size
              · obtain ⟨pb, cb, hpe, hcb, hcell⟩ := HBY.out
                have hvl : v.data.toList.length = v.size := str_len v
                rw [hvl] at hpe hcell
                obtain ⟨bb, oo, hbo, hci⟩ := hcell (by omega)
                injection hpe with e1 _ e2
                rw [hbo] at e1
                injection e1 with e1
                injection e1 with e3 e4
                subst e3 e4
                have hkc := cell_kept (hci i hlt) c1.out
                rw [Nat.zero_add] at hkc
                have hstep := hex_step v.data.toList i (by omega)
                have hSs : S.size ≤ 1024 := by
                  have h1 := hS.out
                  have h2 := HV5.out
                  rw [← h1, pack_size, hexL_length, List.length_take]
                  omega
                rw [hS.out] at hstep
                obtain ⟨B, hB⟩ : ∃ B, (v.data.toList.getD i 0).toNat = B := ⟨_, rfl⟩
                have hB256 : B < 256 := by rw [← hB]; exact (v.data.toList.getD i 0).toNat_lt
                rw [hB] at hkc hstep
                have t1 : ((B : Int) / 16).toNat = B / 16 := by omega
                have t2 : ((B : Int) % 16).toNat = B % 16 := by omega
                have i1 := digit_slice ((B : Int) / 16) (by omega) (by omega)
                have i2 := digit_slice ((B : Int) % 16) (by omega) (by omega)
                rw [t1] at i1
                rw [t2] at i2
                obtain ⟨D1, hD1⟩ : ∃ D1, hexD (B / 16) = D1 := ⟨_, rfl⟩
                obtain ⟨D2, hD2⟩ : ∃ D2, hexD (B % 16) = D2 := ⟨_, rfl⟩
                rw [hD1] at i1 hstep
                rw [hD2] at i2 hstep
                have hand := u8_and15 (x := (B : Int)) (by omega) (by omega)
                have hs1 : IntKind.u8.wrap ((B : Int) / 16 + 1) = (B : Int) / 16 + 1 := IntWalk.u8_in _ (by omega)
                have hs2 : IntKind.u8.wrap ((B : Int) % 16 + 1) = (B : Int) % 16 + 1 := IntWalk.u8_in _ (by omega)
                have hq1 : ¬ 9223372036854775807 < S.size + 2 := by omega
                have hq2 : ¬ 9223372036854775807 < S.size + (1 + 1) := by omega
                have hsum : IntKind.i64.wrap ((i : Int) + 1) = (i : Int) + 1 := IntWalk.i64_in _ (by have := HV5.out; omega)
                have HST := Lib.hid hstep
                clear hcell hci hcb hvl hstep hSs hB t1 t2 hD1 hD2 e2
                go_wp2_with fail
                go_quiet (fail)
                have hb2 := Lib.hid (c1.out.trans ((⟨rfl, rfl, rfl, Nat.le_refl _, fun _ _ => rfl⟩ : Below wr.heap.size wr (wr.drewN nq)).mono c1.out.size))
                clear hkc c1
                generalize wr.drewN nq = w6 at *
                go_wp2_with fail
                go_roundw
                case rel => exact ⟨i + 1, _, by omega, by go_num, rfl, HST.out.symm, hb2⟩
                case measure => simp [intOf]; omega
              · obtain rfl : i = v.size := by omega
                clear hlt hi
                have hvl : v.data.toList.length = v.size := str_len v
                have hS2 := hS.out
                rw [List.take_of_length_le (by omega)] at hS2
                have hp2 := cell_kept HP3.out c1.out
                have c3 := Lib.hid (c0.out.trans (c1.out.mono c0.out.size))
                clear c0 c1 hS
                have c1 := Lib.hid c3.out
                clear c3
                by_cases hz : v.size = 0
                · have hS0 : S.size = 0 := by rw [← hS2, pack_size, hexL_length]; omega
                  have e1 := isEmpty_true hS0
                  have hZ2 : Z = ⟨#[45]⟩ := by
                    rw [← HZ.out, textV_none hz]
                    rfl
                  subst hZ2
                  clear hvl hS2 hz hS0
                  go_wp2_with fail
                  refine (works39_any m _ (HE.out.below c1.out)).mono ?_
                  rintro e w7 ⟨rfl, b1⟩
                  have c2 := Lib.hid (c1.out.trans (b1.mono c1.out.size))
                  clear c1
                  have c1 := Lib.hid c2.out
                  clear c2
                  clear b1
                  go_wp2_with fail
                  go_ret
                  exact ⟨rfl, c1.out⟩
                · have hS0 : ¬ S.size = 0 := by rw [← hS2, pack_size, hexL_length]; omega
                  have e1 := isEmpty_false hS0
                  have hZ2 : Z = S := by
                    have h5 := HV5.out
                    rw [← HZ.out, textV_some (by omega) hz]
                    exact hS2
                  subst hZ2
                  have e2 : (Z.toList == Z.toList) = true := beq_self_eq_true _
                  clear hvl hS2 hz hS0
                  go_wp2_with fail
                  refine (works39_any m _ (HE.out.below c1.out)).mono ?_
                  rintro e w7 ⟨rfl, b1⟩
                  have c2 := Lib.hid (c1.out.trans (b1.mono c1.out.size))
                  clear c1
                  have c1 := Lib.hid c2.out
                  clear c2
                  clear b1
                  go_wp2_with fail
                  go_ret
                  exact ⟨rfl, c1.out⟩
          · have d1 : (k == 1) = false := by rw [beq_eq_false_iff_ne]; exact h1
            clear h1
            go_wp2_with fail
            refine (works39_any m _ (HE.out.below c1.out)).mono ?_
            rintro e w5 ⟨rfl, b1⟩
            have c2 := Lib.hid (c1.out.trans (b1.mono c1.out.size))
            clear c1
            have c1 := Lib.hid c2.out
            clear c2
            clear b1
            go_wp2_with fail
            go_ret
            exact ⟨rfl, c1.out⟩
end Go.Proofs.YtlmbcclggaflaaaGreatDoor
namespace Go.Proofs.YtlmbcclggaflaaaGreatDoor.lawOpWords
open Go Go.RowKit Go.ChangeShapes Go.WideShapes Go.ChangeAt
open Go.ChangeMaps (open_string shut_string)

set_option maxRecDepth 100000 in
theorem contract (H : Type) (enc : TypeId × Value → H) (W : World) (base : Nat) (args : Array Value) (ds gs : List (DataW H)) (before : List MemPlace)
    (hval : ∀ (j : Nat) t v, Tryz.f9.params[j]? = some t → args[j]? = some v → Value.okWide Tryz.prog W .any base t v)
    (hW : DataW.Whole enc Tryz.prog Tryz.f9.params.toList Rows.opWordsSpec.vars false W args.toList ds gs before) (hL : laidMetH Tryz.prog Rows.opWordsRow.laid W) (hR : (DataW.weightsEach Tryz.prog (Tryz.f9.params.toList ++ (OpenSpec.ofChange Rows.opWordsSpec).bare.plain.varTypes Tryz.prog) (ds ++ gs)).all (· ≤ reachBytes) = true) (hS : W.ShapedOpen Tryz.prog) :
    Calls Tryz.prog 9 args W fun e W' => ∃ v, e = .returned v ∧ Rows.opWordsSpec.post enc Tryz.prog Tryz.f9 false true false false W args v W' := by
  have hW' := hW
  obtain ⟨p, q, hA0, hV, rfl, hfz, hnd⟩ := hW
  have hA : DataW.TrodAll enc Tryz.prog W 0 (fun _ => true) true Tryz.f9.params.toList args.toList ds p := hA0
  rw [Tryz.params9] at hA hval
  obtain ⟨v0, vs0, d0, ds0, p0, q0, hargs, rfl, rfl, h0, r0⟩ := trodAll_cons hA
  obtain ⟨v1, vs1, d1, ds1, p1, q1, rfl, rfl, rfl, h1, r1⟩ := trodAll_cons r0
  obtain ⟨rfl, rfl, rfl⟩ := trodAll_nil r1
  obtain rfl : args = #[v0, v1] := by cases args; simp_all
  obtain ⟨rfl, rfl⟩ := trodVars_none hV
  obtain ⟨mL, hm⟩ := maxLen_of hS
  obtain ⟨K0, Y0, Q0, T0, u0, l0, rfl, R0, B0⟩ := open_num h0 (hval 0 25 v0 rfl rfl)
  obtain ⟨a1, rfl, rfl, rfl, ws1⟩ := open_int Tryz.underlying3 (hval 1 3 v1 rfl rfl) h1
  clear hA0
  simp only [List.append_nil] at hW'
  have hlt := fun x hx => hW'.lt x hx
  refine (walkOpWords K0 Y0 Q0 T0 u0 l0 R0 a1 ws1 mL W B0 (tab_of_laid hL) (errs_of_laid hL) hm).mono fun e W' ⟨he, hb⟩ => ?_
  subst he
  refine ⟨_, rfl, _, _, _, [], (p0 ++ ([] ++ [])), [], hW', ?_, ?_, rfl, hb.frame _, fun h => by cases h⟩
  · exact trodAll_cons_mk (shut_bool Tryz.underlying4 _) trodAll_mk0
  · exact trodAll_cons_mk (Below.trod (by kernel_rfl) (by kernel_rfl) (of_decide_eq_true (by kernel_rfl)) h0 hb (fun x hx => by simpa using hlt x (by simp [hx]))) (trodAll_cons_mk (shut_int Tryz.underlying3 ws1) trodAll_mk0)

theorem reads (os : Os) {H : Type} (enc : TypeId × Value → H) : ∃ places, DataW.whole enc Tryz.prog ((laidWorld os).forCall (fun _ _ => 0) ⟨#[], #[.agg #[.int .u8 0, .int .u8 0, .int .u8 0, .int .u32 0, .slice none 0 0], .int .i64 0], []⟩).memory Tryz.f9.params.toList Rows.opWordsSpec.vars false (#[.agg #[.int .u8 0, .int .u8 0, .int .u8 0, .int .u32 0, .slice none 0 0], .int .i64 0] : Array Value).toList 8 = some ([.agg [.lit (.int .u8 0), .lit (.int .u8 0), .lit (.int .u8 0), .lit (.int .u32 0), .nil], .lit (.int .i64 0)], [], places) :=
  ⟨[], by kernel_rfl⟩

set_option maxRecDepth 100000 in
theorem lifted (os : Os) (started : os.Started) (H : Type) (enc : TypeId × Value → H) (F : Stop.Interp) :
    ReturnsInHanded {} Tryz.checked os 9 .any ((OpenSpec.ofChange Rows.opWordsSpec).preRow enc Tryz.prog Tryz.f9 Rows.opWordsRow.domain false Rows.opWordsRow.laid) (((OpenSpec.ofChange Rows.opWordsSpec).at F).post enc Tryz.prog Tryz.f9 false true false false) := by
  obtain ⟨places, hx⟩ := reads os enc
  refine returnsInHanded_of_row (C := Tryz.checked) (s := OpenSpec.ofChange Rows.opWordsSpec) own started (by kernel_rfl) Tryz.func9
    (witness_row_atRef (enc := enc) (C := Tryz.checked) false (laidWorld os) #[.agg #[.int .u8 0, .int .u8 0, .int .u8 0, .int .u32 0, .slice none 0 0], .int .i64 0] rfl (by kernel_rfl) (by kernel_rfl) (by kernel_rfl)
      (OpenSpec.preRow_of_cond 8 hx (by kernel_rfl) (fun k hk => by cases hk) (by kernel_rfl) (laid_met os _))) ?_
  intro W base args ds gs before hval hW _ _ hR hL hS _
  exact contract H enc W base args ds gs before hval hW hL hR hS

theorem said : Rows.OpWordsSaid :=
  OpenClaim.holds_of_cond 9 Tryz.f9 rfl rfl rfl rfl rfl rfl rfl ⟨rfl, rfl, rfl, rfl, rfl⟩ rfl rfl rfl rfl rfl (by kernel_rfl) Tryz.func9 (by kernel_rfl)
    (of_decide_eq_true (by kernel_rfl)) (by unfold Func.isWrapper; first | (rw [if_pos (by decide +kernel)]; kernel_rfl) | (rw [if_neg (by decide +kernel)]; exact ⟨rfl, rfl⟩))
    (fun os started H enc _ F => by rw [OpenClaim.pre_eq_preRow]; exact lifted os started H enc F)

theorem plain (f : FuncId) (fn : Func) (hf : Tryz.pinned.checked.prog.funcNamed Tryz.f9.name = some f) (hfn : Tryz.pinned.checked.prog.funcs[f]? = some fn) :
    true = Tryz.pinned.checked.prog.looks [] ∧ ∀ (j : Nat) t, fn.params[j]? = some t → Tryz.pinned.checked.prog.wantsStandIn t = false := by
  obtain rfl : f = 9 := Option.some.inj ((show Tryz.prog.funcNamed Tryz.f9.name = some 9 by kernel_rfl).symm.trans hf) |>.symm
  obtain rfl : fn = Tryz.f9 := (Option.some.inj (Tryz.func9.symm.trans hfn)).symm
  refine ⟨by kernel_rfl, fun j t ht => ?_⟩
  have key : Tryz.f9.params.all (fun t => !Tryz.prog.wantsStandIn t) = true := by kernel_rfl
  have h2 := Array.all_eq_true_iff_forall_mem.1 key t (Array.mem_of_getElem? ht)
  rw [Bool.not_eq_true'] at h2
  exact h2

theorem proved : Rows.OpWordsCardSaid :=
  Claim7.holds_tied_plain_at .later [] _ _ _ _ said (fun _ h => by cases h) (by kernel_rfl) (fun _ h => by cases h) opWords_row_tie rfl ⟨rfl, rfl⟩ (by kernel_rfl) rfl plain (by kernel_rfl)
end Go.Proofs.YtlmbcclggaflaaaGreatDoor.lawOpWords
