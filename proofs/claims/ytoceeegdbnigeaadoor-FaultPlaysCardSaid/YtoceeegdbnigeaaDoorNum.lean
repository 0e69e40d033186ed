/-
  Plans: numbers in strings: what need and number do, with their panic.
  Conditions: the library's tables and error variables lie in the world.
-/
import Derived.Test.YtoceeegdbnigeaaDoorFlt1
import Derived.Test.YtoceeegdbnigeaaDoorTab
import Derived.Test.YtoceeegdbnigeaaDoorDig01b
import Derived.Lib.AtoiTie
import Derived.Lib.AtoiErrMem
import Derived.Lib.ItoaMem
import Derived.Shelf.Strconv.AtoiAll
set_option linter.unusedVariables false
namespace Go.Proofs.YtoceeegdbnigeaaDoor
open Go Go.RowKit

theorem dec_from_snoc : ∀ (l : List UInt8) (acc n : Nat) (b : UInt8) (d : Nat), Lib.decFrom acc l = some n → Lib.digitVal b = some d → Lib.decFrom acc (l ++ [b]) = some (n * 10 + d)
  | [], acc, n, b, d, h, hb => by
    simp only [Lib.decFrom, Option.some.injEq] at h
    simp [Lib.decFrom, hb, h]
  | c :: r, acc, n, b, d, h, hb => by
    simp only [Lib.decFrom, List.cons_append] at h ⊢
    cases hc : Lib.digitVal c with
    | none => rw [hc] at h; cases h
    | some e =>
      rw [hc] at h
      exact dec_from_snoc r _ n b d h hb
theorem digit_val (k : Nat) (h : k < 10) : Lib.digitVal (UInt8.ofNat (48 + k)) = some k := by
  have : ∀ k : Fin 10, Lib.digitVal (UInt8.ofNat (48 + k.val)) = some k.val := by decide
  exact this ⟨k, h⟩
theorem dec_from (m : Nat) : ∀ n, n < m → Lib.decFrom 0 (Lib.decDigits n) = some n := by
  induction m with
  | zero => intro n h; omega
  | succ m ih =>
    intro n h
    by_cases h10 : n < 10
    · rw [Lib.decDigits_one h10]
      rw [Lib.decFrom, digit_val n h10]
      simp [Lib.decFrom]
    · rw [dec_big n h10, dec_from_snoc _ 0 (n / 10) _ (n % 10) (ih (n / 10) (by omega)) (digit_val _ (by omega))]
      congr 1; omega
theorem dec_len : ∀ (k n : Nat), n < 10 ^ (k + 1) → (Lib.decDigits n).length ≤ k + 1
  | 0, n, h => by rw [Lib.decDigits_one (by omega)]; simp
  | k + 1, n, h => by
    by_cases h10 : n < 10
    · rw [Lib.decDigits_one h10]; simp
    · have := dec_len k (n / 10) (by rw [Nat.pow_succ] at h; omega)
      rw [dec_big n h10, List.length_append]
      simp; omega
theorem atoi_dec (n : Nat) (h : n ≤ 1000000) : Lib.atoiAll (Lib.decDigits n) = .ok (n : Int) := by
  have hl : (Lib.decDigits n).length ≤ 18 := by
    exact Nat.le_trans (dec_len 6 n (by have : (10 : Nat) ^ 7 = 10000000 := by decide
                                        omega)) (by decide)
  rw [Lib.atoiAll_short _ hl]
  have hf := dec_from (n + 1) n (Nat.lt_succ_self n)
  have hall := dec_allDig n
  have hp := dec_pos n
  cases hd : Lib.decDigits n with
  | nil => rw [hd] at hp; simp at hp
  | cons b r =>
    rw [hd] at hf hall
    have hb : isDig b = true := by
      unfold allDig at hall
      rw [List.all_cons, Bool.and_eq_true] at hall
      exact hall.1
    rw [isDig_iff] at hb
    have e1 : (b == 45) = false := by rw [beq_eq_false_iff_ne]; intro e; rw [e] at hb; have : (45 : UInt8).toNat = 45 := rfl; omega
    have e2 : (b == 43) = false := by rw [beq_eq_false_iff_ne]; intro e; rw [e] at hb; have : (43 : UInt8).toNat = 43 := rfl; omega
    show Lib.NumEnd.ofOption (if (b == 45) = true then (Lib.decNat r).map (fun (m : Nat) => -(m : Int)) else if (b == 43) = true then (Lib.decNat r).map (fun (m : Nat) => (m : Int)) else (Lib.decNat (b :: r)).map (fun (m : Nat) => (m : Int))) = _
    rw [e1, e2]
    simp [Lib.decNat, hf, Lib.NumEnd.ofOption]
/-- Which strings are numbers from 0 to a limit. -/
def numG (s : ByteArray) (most : Int) : Prop := (digV s.data.toList).2 = 0 ∧ ((digV s.data.toList).1 : Int) ≤ most
instance (s : ByteArray) (most : Int) : Decidable (numG s most) := by unfold numG; exact inferInstance
def numN (s : ByteArray) : Nat := (digV s.data.toList).1
theorem numG_dec {s : ByteArray} {most : Int} (h : numG s most) : s.data.toList = Lib.decDigits (numN s) := by
  obtain ⟨h1, _⟩ := h
  unfold numN
  rcases digV_tells s.data.toList with e | e | ⟨n, _, e, hn⟩
  · rw [e] at h1; cases h1
  · rw [e] at h1; cases h1
  · rw [e, hn]
theorem numG_of {s : ByteArray} {most : Int} {n : Nat} (h : s.data.toList = Lib.decDigits n) (hn : (n : Int) ≤ most) (hm : most ≤ 1000000) : numG s most := by
  unfold numG
  rw [h, digV_dec (by have hM : M64 = 18446744073709551616 := rfl
                      omega)]
  exact ⟨rfl, hn⟩
/-- The library's two errors are some errors. -/
def Errs (w : World) : Prop := (∃ te pe, w.cell? ⟨5, 0, none⟩ = some (.iface te pe)) ∧ (∃ te pe, w.cell? ⟨4, 0, none⟩ = some (.iface te pe))
theorem Errs.below {w w' : World} (h : Errs w) (hb : Below w.heap.size w w') : Errs w' := by
  obtain ⟨⟨a, b, h1⟩, ⟨c, d, h2⟩⟩ := h
  exact ⟨⟨a, b, cell_kept h1 hb⟩, ⟨c, d, cell_kept h2 hb⟩⟩
/-- What Atoi does: a number, or an error. -/
theorem atoi_any (s : ByteArray) (hs : s.size ≤ 1000000) (w : World) (he : Errs w) :
    Calls Tryd.prog 66 #[.string s] w fun e w' => ((∃ v, Lib.atoiAll s.data.toList = .ok v ∧ e = .returned (.tuple #[.int .i64 v, .nilIface])) ∨ ((∀ v, Lib.atoiAll s.data.toList ≠ .ok v) ∧ ∃ v te pe, e = .returned (.tuple #[.int .i64 v, .iface te pe]))) ∧ Below w.heap.size w w' := by
  obtain ⟨⟨ta, pa, h1⟩, ⟨tb, pb, h2⟩⟩ := he
  by_cases hok : ∃ v, Lib.atoiAll s.data.toList = .ok v
  · obtain ⟨v, hv⟩ := hok
    refine (Tryd.strconv_Atoi_ok s (by omega) v hv w).mono ?_
    rintro e w' ⟨rfl, hw⟩
    refine ⟨Or.inl ⟨v, hv, rfl⟩, ?_⟩
    rcases hw with rfl | ⟨t, rfl⟩
    · exact Below.refl _ _
    · exact Lib.bytesWorld_below _ _ _
  · have hno : ∀ v, Lib.atoiAll s.data.toList ≠ .ok v := fun v hv => hok ⟨v, hv⟩
    by_cases hr : Lib.atoiAll s.data.toList = .range
    · refine (Tryd.strconv_Atoi_range s (by omega) hr _ w h1 (Or.inr ⟨_, _, rfl⟩)).mono ?_
      rintro e w' ⟨N, rfl, _, _, hb⟩
      exact ⟨Or.inr ⟨hno, _, _, _, rfl⟩, hb⟩
    · refine (Any.strconv_Atoi_syntax Tryd.laysC172 s (by omega) ?_ _ w h2 (Or.inr ⟨_, _, rfl⟩)).mono ?_
      · cases hh : Lib.atoiAll s.data.toList with
        | ok v => exact absurd hh (hno v)
        | range => exact absurd hh hr
        | _ => rfl
      · rintro e w' ⟨N, rfl, _, _, hb⟩
        exact ⟨Or.inr ⟨hno, _, _, _, rfl⟩, hb⟩
abbrev malV : Value := .iface 72 (.agg #[])
theorem need_yes (w : World) : Calls Tryd.prog 57 #[.bool true] w fun e w' => e = .returned (.tuple #[]) ∧ w = w' := by
  go_enter Tryd.func57, Tryd.ntmps57
  go_wp2_with fail
  go_end0
  exact ⟨rfl, rfl⟩
theorem need_no (w : World) : Calls Tryd.prog 57 #[.bool false] w fun e w' => e = .panicked [{ v := malV, recovered := false }] ∧ w = w' := by
  go_enter Tryd.func57, Tryd.ntmps57
  go_wp2_with fail
  exact ⟨rfl, rfl, rfl⟩
/-- What number does: the number, or its panic. -/
def numPost (s : ByteArray) (most : Int) (e : Ending) : Prop := (numG s most ∧ e = .returned (.int .i64 (numN s : Int))) ∨ (¬ numG s most ∧ e = .panicked [{ v := malV, recovered := false }])
set_option maxHeartbeats 4000000 in
theorem number_any (s : ByteArray) (hs : s.size ≤ 1000000) (most : Int) (h0 : 0 ≤ most) (h1 : most ≤ 1000000) (w : World) (ht : Tab w) (he : Errs w) :
    Calls Tryd.prog 58 #[.string s, .int .i64 most] w fun e w' => numPost s most e ∧ Below w.heap.size w w' := by
  have HT := Lib.hid ht
  have HA := Lib.hid (atoi_any s hs w he)
  have HS := Lib.hid hs
  have H1 := Lib.hid h1
  clear ht he hs h1
  go_enter Tryd.func58, Tryd.ntmps58
  go_wp2_with fail
  refine HA.out.mono ?_
  rintro e w1 ⟨(⟨v, hv, rfl⟩ | ⟨hno, v, te, pe, rfl⟩), b1⟩
  · have HV := Lib.hid hv
    clear hv
    obtain ⟨b, hb⟩ : ∃ b, inB v most = b := ⟨_, rfl⟩
    have HB := Lib.hid hb
    clear hb
    cases b
    · have HN : Hid (¬ numG s most) := by
        intro hg
        have h2 := HV.out
        rw [numG_dec hg, atoi_dec _ (by have := hg.2; have := H1.out; unfold numN; omega)] at h2
        injection h2 with h2
        have h3 := HB.out
        unfold inB at h3
        rw [decide_eq_false_iff_not, ← h2] at h3
        have := hg.2
        unfold numN at h3
        omega
      go_wp2_with fail
      refine (fin_any v most _).mono ?_
      rw [HB.out]
      rintro e w2 ⟨rfl, rfl⟩
      go_wp2_with fail
      refine (need_no _).mono ?_
      rintro e w2 ⟨rfl, rfl⟩
      exact ⟨rfl, Or.inr ⟨HN.out, rfl⟩, b1⟩
    · have hv0 : 0 ≤ v ∧ v ≤ most := by
        have h3 := HB.out
        unfold inB at h3
        rwa [decide_eq_true_iff] at h3
      obtain ⟨n, hn⟩ : ∃ n : Nat, v = (n : Int) := ⟨v.toNat, by omega⟩
      have hn6 : n ≤ 1000000 := by have := H1.out; omega
      subst hn
      have hit := itoa_any (n : Int) (by omega) (by omega) w1 (HT.out.below b1)
      rw [Lib.itoa_nonneg] at hit
      have HI := Lib.hid hit
      obtain ⟨D, hD⟩ : ∃ D : ByteArray, (⟨(Lib.decDigits n).toArray⟩ : ByteArray) = D := ⟨_, rfl⟩
      have HD := Lib.hid hD
      by_cases hg : s.data.toList = Lib.decDigits n
      · have hsD : D = s := by rw [← hD, ← hg]
        have HG : Hid (numG s most) := numG_of hg hv0.2 H1.out
        have HN : Hid (numN s = n) := by
          show _ = _
          have h2 := HG.out
          unfold numN
          rw [hg, digV_dec (by have hM : M64 = 18446744073709551616 := rfl
                               omega)]
        have heq : (D.toList == s.toList) = true := by rw [hsD]; exact beq_self_eq_true _
        clear hv0 hn6 hit hg hD hsD
        go_wp2_with fail
        refine (fin_any (n : Int) most _).mono ?_
        rw [HB.out]
        rintro e w2 ⟨rfl, rfl⟩
        go_wp2_with fail
        refine HI.out.mono ?_
        rw [HD.out]
        rintro e w3 ⟨rfl, b2⟩
        go_wp2_with fail
        refine (need_yes _).mono ?_
        rintro e w2 ⟨rfl, rfl⟩
        go_wp2_with fail
        go_ret
        exact ⟨Or.inl ⟨HG.out, by rw [HN.out]; rfl⟩, b1.trans (b2.mono b1.size)⟩
      · have HN : Hid (¬ numG s most) := by
          intro hgd
          have h2 := numG_dec hgd
          have h3 := HV.out
          rw [h2, atoi_dec _ (by have := hgd.2; have := H1.out; unfold numN; omega)] at h3
          injection h3 with h3
          have h4 : numN s = n := by omega
          rw [h4] at h2
          exact hg h2
        have heq : (D.toList == s.toList) = false := by
          rw [← hD, ByteArray.toList_eq, ByteArray.toList_eq, beq_eq_false_iff_ne]
          intro h
          exact hg h.symm
        clear hv0 hn6 hit hg hD
        go_wp2_with fail
        refine (fin_any (n : Int) most _).mono ?_
        rw [HB.out]
        rintro e w2 ⟨rfl, rfl⟩
        go_wp2_with fail
        refine HI.out.mono ?_
        rw [HD.out]
        rintro e w3 ⟨rfl, b2⟩
        go_wp2_with fail
        refine (need_no _).mono ?_
        rintro e w2 ⟨rfl, rfl⟩
        exact ⟨rfl, Or.inr ⟨HN.out, rfl⟩, b1.trans (b2.mono b1.size)⟩
  · have HN : Hid (¬ numG s most) := by
      intro hgd
      exact hno _ (by rw [numG_dec hgd]; exact atoi_dec _ (by have := hgd.2; have := H1.out; unfold numN; omega))
    clear hno
    go_wp2_with fail
    refine (need_no _).mono ?_
    rintro e w2 ⟨rfl, rfl⟩
    exact ⟨rfl, Or.inr ⟨HN.out, rfl⟩, b1⟩
theorem number_yes (s : ByteArray) (hs : s.size ≤ 1000000) (most : Int) (h0 : 0 ≤ most) (h1 : most ≤ 1000000) (hg : numG s most) (w : World) (ht : Tab w) (he : Errs w) :
    Calls Tryd.prog 58 #[.string s, .int .i64 most] w fun e w' => e = .returned (.int .i64 (numN s : Int)) ∧ Below w.heap.size w w' := by
  refine (number_any s hs most h0 h1 w ht he).mono ?_
  rintro e w' ⟨⟨_, h⟩ | ⟨h, _⟩, hb⟩
  · exact ⟨h, hb⟩
  · exact absurd hg h
theorem number_no (s : ByteArray) (hs : s.size ≤ 1000000) (most : Int) (h0 : 0 ≤ most) (h1 : most ≤ 1000000) (hg : ¬ numG s most) (w : World) (ht : Tab w) (he : Errs w) :
    Calls Tryd.prog 58 #[.string s, .int .i64 most] w fun e w' => e = .panicked [{ v := malV, recovered := false }] ∧ Below w.heap.size w w' := by
  refine (number_any s hs most h0 h1 w ht he).mono ?_
  rintro e w' ⟨⟨h, _⟩ | ⟨_, h⟩, hb⟩
  · exact absurd h hg
  · exact ⟨h, hb⟩
end Go.Proofs.YtoceeegdbnigeaaDoor
