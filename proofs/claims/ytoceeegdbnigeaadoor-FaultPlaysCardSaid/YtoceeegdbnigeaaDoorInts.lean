/-
  append of numbers onto a slice that the call owns, the numbers given as they read; slices.Clone of numbers; plans as results; a plan's copy.
  Conditions: at most 2^40 numbers.
-/
import Derived.Test.YtoceeegdbnigeaaDoorRead
import Derived.Test.YtoceeegdbnigeaaDoorInr
import Derived.Deep.AppendLies
import Derived.Maps.AppendAt
set_option linter.unusedVariables false
namespace Go.Proofs.YtoceeegdbnigeaaDoor
open Go Go.RowKit

theorem intCells_one (L : List Int) : ∀ u ∈ L.map (Value.int .i64), u.oneCell' = true := by
  intro u hu
  simp only [List.mem_map] at hu
  obtain ⟨c, _, rfl⟩ := hu
  rfl
theorem run_append_ints {P : Program} (w : World) (base : Nat) (t ty e : TypeId) (i : TypeInfo) (z : Value) (ht : P.underlying t = some (.slice e)) (hi : P.info? e = some i) (hz : i.zero = some z)
    (hsize : i.size = 1) (hby : i.bytes = 8) (hzs : z.cells.size = 1) (v : Value) (n : Nat) (xs : List Value) (hown : w.ownsRow base e 1 v n xs)
    (x : Value) (l : List Int) (hx : IntsAt w x l) (hb : n + l.length ≤ 1099511627776) (hbase : base ≤ w.heap.size) :
    ∃ v' w', (Builtin.append_ #[t, t] ty #[v, x]).run P w = .ok v' w' ∧ w'.ownsRow base e 1 v' (n + l.length) (xs ++ l.map (Value.int .i64)) ∧ w.grownBy w' v.ownBlock := by
  obtain ⟨p, c, rfl, hc, hp⟩ := hx
  by_cases h0 : l.length = 0
  · have hl : l = [] := List.eq_nil_of_length_eq_zero h0
    subst hl
    have hcap : ∃ q cap, v = .slice q n cap ∧ n ≤ cap := by
      rcases hown.2 with ⟨rfl, rfl⟩ | ⟨g, cap, cur, rfl, _, _, hnc, _⟩
      · exact ⟨none, 0, rfl, Nat.le_refl _⟩
      · exact ⟨_, cap, rfl, hnc⟩
    obtain ⟨q, cap, rfl, hnc⟩ := hcap
    refine ⟨.slice q n cap, w, ?_, by simpa using hown, ⟨rfl, rfl, rfl, Nat.le_refl _, fun _ _ _ => rfl⟩⟩
    cases p <;> cases q <;> simp [Builtin.append_, run_underlying ht, sizeOf, typeInfo, hi, Builtin.lenOf, Builtin.firstCells, loadCells, loadCellsFrom, storeCells, hnc]
  · obtain ⟨b, o, rfl, hcell⟩ := hp (by omega)
    obtain ⟨v', w', h1, h2, h3, _⟩ := run_append_own (P := P) w base t ty e i z 1 8 ht hi hz hsize hby hzs (by decide) v n xs hown ⟨b, o, none⟩ l.length c (l.map (Value.int .i64)) (by rw [List.length_map]; omega)
      (fun j u hj => by
        have hj' : j < l.length := by
          have := (List.getElem?_eq_some_iff.mp hj).1
          rw [List.length_map] at this
          exact this
        have ha : (⟨b, o, none⟩ : Addr).add j = ⟨b, o + j, none⟩ := by unfold Addr.add; split <;> simp_all
        rw [ha, hcell j hj', ← hj]
        simp [List.getD, hj'])
      (intCells_one l) (by unfold maxLen; omega) (by omega) hbase
    exact ⟨v', w', h1, h2, h3⟩

section
variable {P : Program} (w : World)
theorem wpList_append_ints {ops : Array Oper} {rest : List Oper} {o : Oper} {a : Act} {Q : Exit → Act → World → Prop} (hgd : o.guard = none) (s x : Operand) (t : TypeId)
    (ho : o.op = .call { callee := .builtin .append, args := #[s, x], argTypes := #[t, t] })
    (base : Nat) (e : TypeId) (i : TypeInfo) (z : Value) (ht : P.underlying t = some (.slice e)) (hi : P.info? e = some i) (hz : i.zero = some z)
    (hsize : i.size = 1) (hby : i.bytes = 8) (hzs : z.cells.size = 1)
    (v : Value) (n : Nat) (xs : List Value) (hs : a.eval s = v) (hown : w.ownsRow base e 1 v n xs)
    (u : Value) (l : List Int) (hu : a.eval x = u) (hx : IntsAt w u l) (hb : n + l.length ≤ 1099511627776) (hbase : base ≤ w.heap.size)
    (h : ∀ v' w', w'.ownsRow base e 1 v' (n + l.length) (xs ++ l.map (Value.int .i64)) → w.grownBy w' v.ownBlock → wpList P ops Q rest (a.put o.dst v') w') :
    wpList P ops Q (o :: rest) a w := by
  refine wpList_plain hgd fun K hK => ?_
  obtain ⟨v', w', hr, h2, h3⟩ := run_append_ints (P := P) w base t o.type e i z ht hi hz hsize hby hzs v n xs hown u l hx hb hbase
  unfold Oper.wp execOp
  simp only [ho, resolve, invoke, builtin, Sem.run_bind, Sem.run_pure, Result.andThen_ok, List.map_toArray, List.map_cons, List.map_nil, hs, hu, hr]
  exact hK _ _ (h v' w' h2 h3)

theorem step_append_ints {ops : Array Oper} {o : Oper} {a : Act} {K : Act → World → Prop} {Q : Exit → Act → World → Prop} {E : Prop} (hgd : o.guard = none) (s x : Operand) (t : TypeId)
    (ho : o.op = .call { callee := .builtin .append, args := #[s, x], argTypes := #[t, t] })
    (base : Nat) (e : TypeId) (i : TypeInfo) (z : Value) (ht : P.underlying t = some (.slice e)) (hi : P.info? e = some i) (hz : i.zero = some z)
    (hsize : i.size = 1) (hby : i.bytes = 8) (hzs : z.cells.size = 1)
    (v : Value) (n : Nat) (xs : List Value) (hs : a.eval s = v) (hown : w.ownsRow base e 1 v n xs)
    (u : Value) (l : List Int) (hu : a.eval x = u) (hx : IntsAt w u l) (hb : n + l.length ≤ 1099511627776) (hbase : base ≤ w.heap.size)
    (h : ∀ v' w', w'.ownsRow base e 1 v' (n + l.length) (xs ++ l.map (Value.int .i64)) → w.grownBy w' v.ownBlock → K (a.put o.dst v') w') :
    if Region.wanted o (yielded ops a.tmps) = true then Oper.wp P o a w K Q else E := by
  have hw : Region.wanted o (yielded ops a.tmps) = true := by simp [Region.wanted, hgd]
  rw [if_pos hw]
  obtain ⟨v', w', hr, h2, h3⟩ := run_append_ints (P := P) w base t o.type e i z ht hi hz hsize hby hzs v n xs hown u l hx hb hbase
  unfold Oper.wp execOp
  simp only [ho, resolve, invoke, builtin, Sem.run_bind, Sem.run_pure, Result.andThen_ok, List.map_toArray, List.map_cons, List.map_nil, hs, hu, hr]
  exact h v' w' h2 h3
end


theorem ownsI_built (w : World) (B : Nat) (hB : B ≤ w.heap.size) (e : TypeId) : (w.alloc (.cells #[] e)).ownsRow B e 1 (.slice (some ⟨w.heap.size, 0, none⟩) 0 0) 0 [] :=
  ⟨rfl, .inr ⟨w.heap.size, 0, #[], rfl, hB, heap_alloc_new w _, Nat.le_refl _, by decide, rfl, rfl⟩⟩
theorem infoInt : (Tryd.prog.info? 3).map (fun i => (i.zero, i.size, i.bytes)) = some (some (.int .i64 0), 1, 8) := by kernel_rfl
theorem IntsNew.nil (B : Nat) (w : World) : IntsNew B w (.slice none 0 0) [] := World.ownsRow_nil _ _ _ _
theorem IntsNew.below {B : Nat} {w w' : World} {v : Value} {L : List Int} (h : IntsNew B w v L) (hb : Below w.heap.size w w') : IntsNew B w' v L := own_below h hb
theorem IntsNew.base {B C : Nat} {w : World} {v : Value} {L : List Int} (h : IntsNew B w v L) (hc : C ≤ B) : IntsNew C w v L := own_base h hc
theorem IntsNew.set {B : Nat} {w : World} {v : Value} {L : List Int} (h : IntsNew B w v L) (a : Addr) (u : Value) (hl : a.block < B) : IntsNew B (w.setCell a u) v L := own_set h a u hl
set_option maxRecDepth 100000 in
set_option maxHeartbeats 1000000 in
theorem clone_any (v : Value) (L : List Int) (w : World) (hv : IntsAt w v L) (hl : L.length ≤ 1099511627776) :
    Calls Tryd.prog 14 #[v] w fun e w' => ∃ v', e = .returned v' ∧ IntsNew w.heap.size w' v' L ∧ Below w.heap.size w w' := by
  obtain ⟨i0, hi0, hz0, hz1, hz2⟩ := info_parts infoInt
  have HV := Lib.hid hv
  have HL := Lib.hid hl
  have q22 : ∀ (w : World) (a : Option Addr) (n c n' c' : Nat), (binOp .eql 22 (.slice a n c) (.slice none n' c')).run Tryd.prog w = .ok (.bool a.isNone) w := fun w a n c n' c' => Lib.run_eql_slice_nil w _ _ a n c n' c' Tryd.underlying22
  obtain ⟨p, c, rfl, hc, hp⟩ := hv
  clear hl
  cases p with
  | none =>
    have h0 : L.length = 0 := by
      rcases Nat.eq_zero_or_pos L.length with h | h
      · exact h
      · obtain ⟨b, o, he, _⟩ := hp h; cases he
    have hL : L = [] := List.eq_nil_of_length_eq_zero h0
    subst hL
    clear hp hc
    go_enter Tryd.func14, Tryd.ntmps14
    go_wp2_with fail
    go_ret
    exact ⟨_, rfl, IntsNew.nil _ _, Below.refl _ _⟩
  | some a =>
    clear hp hc
    go_enter Tryd.func14, Tryd.ntmps14
    go_wp2_with (at_builtin; refine wpList_append_ints _ rfl (.tmp 5) (.tmp 6) 22 rfl w.heap.size 3 i0 (.int .i64 0) Tryd.underlying22 hi0 hz0 hz1 hz2 rfl _ 0 [] rfl (ownsI_built w _ (Nat.le_refl _) _) _ L rfl (HV.out.below ((Below.refl _ _).alloc (Nat.le_refl _) _)) (by have := HL.out; omega) (by simp) ?_)
    intro v' w4 hown hgrow
    have HN : Hid (IntsNew w.heap.size w4 v' L) := by
      show World.ownsRow _ _ _ _ _ _ _
      exact hown
    have c5 : Below w.heap.size w w4 := ((Below.refl _ _).alloc (Nat.le_refl _) _).grown hgrow (by simp) (fun k hk => by cases hk; exact Nat.le_refl _)
    clear hown hgrow
    go_wp2_with fail
    go_ret
    exact ⟨_, rfl, HN.out, c5⟩
theorem PlanAt.drew {w : World} {B : Nat} {A : Int} {d : Bool} {v : Value} (h : PlanAt w B A d v) : PlanAt w.drew B A d v := h
set_option maxRecDepth 100000 in
set_option maxHeartbeats 1000000 in
theorem fclone_any (A : Int) (d : Bool) (v : Value) (L : List Int) (w : World) (hv : IntsAt w v L) (hl : L.length ≤ 1099511627776) :
    Calls Tryd.prog 48 #[planV A d v] w fun e w' => ∃ v', e = .returned (planV A d v') ∧ IntsNew w.heap.size w' v' L ∧ Below w.heap.size w w' := by
  have c1 : Below w.heap.size w ((w.alloc (.cells #[.int .i64 A, .bool d, v] 24)).alloc (.cells #[.int .i64 0, .bool false, .slice none 0 0] 24)) := ((Below.refl _ _).alloc (Nat.le_refl _) _).alloc (by simp) _
  have hp1 : PlanAt ((w.alloc (.cells #[.int .i64 A, .bool d, v] 24)).alloc (.cells #[.int .i64 0, .bool false, .slice none 0 0] 24)) w.heap.size A d v := (PlanAt.new w A d v 24).below ((Below.refl _ _).alloc (Nat.le_refl _) _)
  have hp2 : PlanAt ((w.alloc (.cells #[.int .i64 A, .bool d, v] 24)).alloc (.cells #[.int .i64 0, .bool false, .slice none 0 0] 24)) (w.heap.size + 1) 0 false (.slice none 0 0) := by
    have h := PlanAt.new (w.alloc (.cells #[.int .i64 A, .bool d, v] 24)) 0 false (.slice none 0 0) 24
    rw [World.size_alloc] at h
    exact h
  have hsz : ((w.alloc (.cells #[.int .i64 A, .bool d, v] 24)).alloc (.cells #[.int .i64 0, .bool false, .slice none 0 0] 24)).heap.size = w.heap.size + 2 := by simp
  obtain ⟨p0, c0, rfl, hc0, hp0⟩ : ∃ p c, v = .slice p L.length c ∧ True ∧ True := by
    obtain ⟨p, c, h, _⟩ := hv
    exact ⟨p, c, h, trivial, trivial⟩
  clear hc0 hp0
  have HV := Lib.hid (hv.below c1)
  have HL := Lib.hid hl
  obtain ⟨⟨k0, k1, k2⟩, kf⟩ := hp1
  have HP1 : Hid (PlanAt ((w.alloc (.cells #[.int .i64 A, .bool d, .slice p0 L.length c0] 24)).alloc (.cells #[.int .i64 0, .bool false, .slice none 0 0] 24)) w.heap.size A d (.slice p0 L.length c0)) := ⟨⟨k0, k1, k2⟩, kf⟩
  have HP2 := Lib.hid hp2
  clear hv hl hp2
  go_enter Tryd.func48, Tryd.ntmps48
  go_wp2_with fail
  refine (clone_any _ L _ HV.out HL.out).mono ?_
  rintro e w1 ⟨v', rfl, hn, b1⟩
  obtain ⟨p', c', rfl⟩ := ownsRow_slice hn
  rw [hsz] at hn
  have c2 := c1.trans (b1.mono c1.size)
  obtain ⟨⟨k0, k1, k2⟩, kf⟩ := HP1.out.below b1
  obtain ⟨⟨r0, r1, r2⟩, rf⟩ := HP2.out.below b1
  have kf2 := kf 2
  have HQ1 := Lib.hid ((HP1.out.below b1).set2 (.slice p' L.length c'))
  have HQ2 := Lib.hid (HP2.out.below b1)
  have HN := Lib.hid hn
  have c3 := below_set c2 w.heap.size (Nat.le_refl _) 2 (.slice p' L.length c')
  obtain ⟨⟨q0, q1, q2⟩, qf⟩ := HQ1.out
  have n20 : (⟨w.heap.size + 1, 0, none⟩ : Addr) ≠ ⟨w.heap.size, 2, none⟩ := by intro he; injection he with e1 e2; omega
  have n21 : (⟨w.heap.size + 1, 1, none⟩ : Addr) ≠ ⟨w.heap.size, 2, none⟩ := by intro he; injection he with e1 e2; omega
  have n22 : (⟨w.heap.size + 1, 2, none⟩ : Addr) ≠ ⟨w.heap.size, 2, none⟩ := by intro he; injection he with e1 e2; omega
  have hq2 : PlanAt (w1.setCell ⟨w.heap.size, 2, none⟩ (.slice p' L.length c')) (w.heap.size + 1) 0 false (.slice none 0 0) := HQ2.out.block (Below.heap_setCell _ _ _ _ (by simp))
  have HR2 := Lib.hid hq2
  obtain ⟨⟨s0, s1, s2⟩, sf⟩ := hq2
  have sf0 := sf 0
  have sf1 := sf 1
  have sf2 := sf 2
  have HN2 := Lib.hid (hn.set ⟨w.heap.size, 2, none⟩ (.slice p' L.length c') (by simp))
  clear hn k0 k1 r0 r1 r2 rf kf qf sf c1 c2 b1 HP1 HP2 HV n20 n21 n22
  go_wp2_with fail
  refine bodyPost_ret (results_plan rfl _ _ (w.heap.size + 1) A d (.slice p' L.length c') (HR2.out.set A d (.slice p' L.length c')) rfl) rfl ⟨_, rfl, ?_, ?_⟩
  · exact (((HN2.out.set ⟨w.heap.size + 1, 0, none⟩ _ (by simp)).set ⟨w.heap.size + 1, 1, none⟩ _ (by simp)).set ⟨w.heap.size + 1, 2, none⟩ _ (by simp)).base (by omega)
  · exact below_set (below_set (below_set c3 _ (by omega) 0 _) _ (by omega) 1 _) _ (by omega) 2 _
end Go.Proofs.YtoceeegdbnigeaaDoor
