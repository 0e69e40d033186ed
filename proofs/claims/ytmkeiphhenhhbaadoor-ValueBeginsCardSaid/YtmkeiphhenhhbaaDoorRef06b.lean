/-
  What the reference's Repeat, digits and Short compute, on lists of bytes: the same functions as the program's.
  Conditions: at most 2^45 bytes; numbers from 0 on.
-/
import Derived.Test.YtmkeiphhenhhbaaDoorRef06
import Derived.Laws.Concat
set_option linter.unusedVariables false
namespace Go.Proofs.YtmkeiphhenhhbaaDoor
open Go Go.RowKit

set_option maxHeartbeats 1000000 in
theorem rrepeat_pos (s : ByteArray) (n : Nat) (w : World) (h0 : ¬ (s.size = 0 ∧ 0 < n)) (h1 : n ≤ 512) :
    Calls Tryd.prog 21 #[.string s, .int .i64 (n : Int)] w fun e w' => e = .returned (.tuple #[.string ⟨(repL s.data.toList n).toArray⟩, .int .i64 0]) ∧ Below w.heap.size w w' := by
  obtain ⟨i0, hi, hz0, hz1, hz2⟩ := info_parts infoU8
  have HL := Lib.hid (str_len s)
  have hpos : 0 < n → 0 < s.size := by omega
  have HP := Lib.hid hpos
  obtain ⟨b0, hE, hb0⟩ : ∃ b : Bool, s.toList.isEmpty = b ∧ (b = true → n = 0) := by
    by_cases hs : s.size = 0
    · exact ⟨_, isEmpty_true hs, fun _ => by omega⟩
    · exact ⟨_, isEmpty_false hs, fun h => by cases h⟩
  clear hpos h0
  cases b0
  case true =>
    obtain rfl : n = 0 := hb0 rfl
    clear hb0
    have hcv := fun (wx : World) => (BytesAt.nil wx none 0).convert (P := Tryd.prog) 35 9 5 Tryd.underlying35 Tryd.underlying5 Tryd.underlying9
    go_enter Tryd.func21, Tryd.ntmps21
    go_wp2_with fail
    refine wp_loop_rounds 1 ?_
    rw [rounds_succ]
    go_wp2_with fail
    go_ret2
    exact ⟨rfl, Below.refl _ _⟩
  case false =>
    clear hb0
    go_enter Tryd.func21, Tryd.ntmps21
    go_wp2_with fail
    go_loopw [6, 7] (fun vo vi wr => ∃ k : Nat, k ≤ n ∧ vi = .int .i64 k ∧ Hid (wr.ownsRow w.heap.size 5 1 vo (repL s.data.toList k).length (Lib.byteCells (repL s.data.toList k))) ∧ Below w.heap.size w wr) (fun _ vi _ => n - (intOf vi).toNat)
    case atStart => exact ⟨0, Nat.zero_le _, rfl, Lib.hid (World.ownsRow_nil _ _ _ _), Below.refl _ _⟩
    case round =>
      obtain ⟨k, hk, rfl, hr, hbr⟩ := hrel
      by_cases hlt : k < n
      · have hp : 0 < s.size := HP.out (by omega)
        obtain ⟨x, hx⟩ : ∃ x : UInt8, x = s.data.toList.getD (k % s.size) 0 := ⟨_, rfl⟩
        have hix := run_str_at (P := Tryd.prog) s 9 Tryd.underlying9 .i64 ((k : Int) % (s.size : Int)) (k % s.size) (by omega) (Nat.mod_lt _ hp) x hx
        have HN : Hid (repL s.data.toList (k + 1) = repL s.data.toList k ++ [x]) := by show _ = _; rw [repL_succ, HL.out, hx]
        clear hx
        have hlen : (repL s.data.toList k).length ≤ 512 := by rw [repL_length]; omega
        go_wp2_with (at_builtin; refine wpList_append_lies _ rfl (.tmp 25) (.tmp 32) 35 rfl w.heap.size 5 i0 (.int .u8 0) 1 1 Tryd.underlying35 hi hz0 hz1 hz2 rfl (by decide) u6 (repL s.data.toList k).length (Lib.byteCells (repL s.data.toList k)) rfl (World.ownsRow.alloc hr.out _) ⟨wr.heap.size, 0, none⟩ 1 1 [.int .u8 (x.toNat : Int)] rfl rfl (World.news_of_block (cs := #[.int .u8 (x.toNat : Int)]) (t := 5) (fr := (0, 0)) (heap_alloc_new wr _)) (fun u hu => by simp at hu; subst hu; rfl) (by decide) (by unfold maxLen; omega) (by omega) (by have := hbr.size; simp; omega) _ rfl ?_)
        intro g cap w2 hown2 hgrow2 hgc hlt3
        go_wp2_with fail
        go_roundw
        case rel => exact ⟨k + 1, by omega, by go_num, by rw [HN.out]; exact Lib.hid (owns_snoc hown2), (hbr.alloc hbr.size _).grown hgrow2 (by have := hbr.size; simp; omega) (fun i hi => (hr.out.lt i hi).1)⟩
        case measure => simp [intOf]; omega
      · have hkn : k = n := by omega
        subst hkn
        have hcv := (BytesAt.of_owns hr.out).convert (P := Tryd.prog) 35 9 5 Tryd.underlying35 Tryd.underlying5 Tryd.underlying9
        go_wp2_with fail
        go_ret2
        exact ⟨rfl, hbr⟩

theorem rrepeat_any (s : ByteArray) (n : Int) (w : World) :
    Calls Tryd.prog 21 #[.string s, .int .i64 n] w fun e w' => e = .returned (.tuple #[.string ⟨(repeatV s.data.toList n).1.toArray⟩, .int .i64 (repeatV s.data.toList n).2]) ∧ Below w.heap.size w w' := by
  by_cases hn : n < 0
  · have HT := Lib.hid (repeatV_neg (p := s.data.toList) hn)
    go_enter Tryd.func21, Tryd.ntmps21
    go_wp2_with fail
    go_ret2
    exact ⟨by rw [HT.out]; rfl, Below.refl _ _⟩
  · obtain ⟨m, rfl⟩ := Int.eq_ofNat_of_zero_le (show 0 ≤ n by omega)
    by_cases hs : s.size = 0 ∧ 0 < m
    · have HT := Lib.hid (repeatV_none (p := s.data.toList) (n := (m : Int)) (by rw [str_len]; exact hs.1) (by omega))
      have hE := isEmpty_true hs.1
      have hm0 : 0 < m := by omega
      clear hs hn
      go_enter Tryd.func21, Tryd.ntmps21
      go_wp2_with fail
      go_ret2
      exact ⟨by rw [HT.out]; rfl, Below.refl _ _⟩
    · by_cases hm : 512 < m
      · have hs0 : ¬ s.size = 0 := by omega
        have HT := Lib.hid (repeatV_large (p := s.data.toList) (n := (m : Int)) (by rw [str_len]; exact hs0) (by omega))
        have hE := isEmpty_false hs0
        clear hs hs0 hn
        go_enter Tryd.func21, Tryd.ntmps21
        go_wp2_with fail
        go_ret2
        exact ⟨by rw [HT.out]; rfl, Below.refl _ _⟩
      · rw [repeatV_ok (p := s.data.toList) (n := m) (by rw [str_len]; omega) (by omega)]
        exact rrepeat_pos s m w hs (by omega)

/-- One of the ten digits, cut out of their string. -/
theorem run_cut10 (n : Int) (h0 : 0 ≤ n) (h : n < 10) (wx : World) : (Instr.slice 9 (.string ⟨#[48, 49, 50, 51, 52, 53, 54, 55, 56, 57]⟩) (some (.int .i64 n)) (some (.int .i64 (n + 1))) none).run Tryd.prog wx = .ok (.string ⟨#[UInt8.ofNat (48 + n.toNat)]⟩) wx := by
  have hc : n = 0 ∨ n = 1 ∨ n = 2 ∨ n = 3 ∨ n = 4 ∨ n = 5 ∨ n = 6 ∨ n = 7 ∨ n = 8 ∨ n = 9 := by omega
  rcases hc with rfl | rfl | rfl | rfl | rfl | rfl | rfl | rfl | rfl | rfl <;> rfl

theorem rdigits_any (k : Nat) : ∀ (n : Int) (w : World), 0 ≤ n → n.toNat < k → n ≤ 35184372088832 →
    Calls Tryd.prog 32 #[.int .i64 n] w fun e w' => e = .returned (.string ⟨(Lib.decDigits n.toNat).toArray⟩) ∧ w' = w := by
  induction k with
  | zero => intro n w h0 h; omega
  | succ k ih =>
    intro n w h0 hk hn
    by_cases h10 : n < 10
    · obtain ⟨d, hd⟩ : ∃ d : UInt8, d = UInt8.ofNat (48 + n.toNat) := ⟨_, rfl⟩
      have hcut := run_cut10 n (by omega) (by omega)
      have HD : Hid (Lib.decDigits n.toNat = [d]) := by show _ = _; rw [Lib.decDigits, dif_pos (by omega), hd]
      rw [← hd] at hcut
      clear hd ih
      go_enter Tryd.func32, Tryd.ntmps32
      go_wp2_with fail
      go_ret
      exact ⟨by rw [HD.out]; rfl, rfl⟩
    · have IH := Lib.hid ih; clear ih
      have hq := decDigits_le (n / 10).toNat
      have hr := decDigits_le (n % 10).toNat
      have HD : Hid (Lib.decDigits n.toNat = Lib.decDigits (n / 10).toNat ++ Lib.decDigits (n % 10).toNat) := by
        show _ = _
        rw [Lib.decDigits, dif_neg (by omega), Lib.decDigits.eq_def (n % 10).toNat, dif_pos (by omega)]
        rw [show n.toNat / 10 = (n / 10).toNat by omega, show n.toNat % 10 = (n % 10).toNat by omega]
      generalize hA : Lib.decDigits (n / 10).toNat = A at *
      generalize hB : Lib.decDigits (n % 10).toNat = B at *
      have HA := Lib.hid hA; clear hA
      have HB := Lib.hid hB; clear hB
      go_enter Tryd.func32, Tryd.ntmps32
      go_wp2_with fail
      refine (keeps (IH.out (n / 10) _ (by omega) (by omega) (by omega))).mono ?_
      rw [HA.out]
      rintro e w1 ⟨rfl, rfl⟩
      go_wp2_with fail
      refine (keeps (IH.out (n % 10) _ (by omega) (by omega) (by omega))).mono ?_
      rw [HB.out]
      rintro e w1 ⟨rfl, rfl⟩
      go_wp2_with fail
      go_ret
      exact ⟨by rw [HD.out, ← str_append]; rfl, rfl⟩

set_option maxHeartbeats 1000000 in
theorem rshort_any (s : ByteArray) (w : World) (hl : s.size ≤ 35184372088832) :
    Calls Tryd.prog 23 #[.string s] w fun e w' => e = .returned (.string ⟨(shortV s.data.toList).toArray⟩) ∧ Below w.heap.size w w' := by
  have hI := decDigits_le s.size
  by_cases h8 : 8 < s.size
  · have HS : Hid (shortV s.data.toList = ((Lib.decDigits s.size ++ [58]) ++ hexL (s.data.toList.take 8)) ++ [46, 46]) := by
      show _ = _; unfold shortV; rw [str_len, itoa_nat, if_pos h8]
    have HE : Hid ((s.extract 0 8).data.toList = s.data.toList.take 8) := extract_take s 8
    have h16 : (hexL (s.data.toList.take 8)).length ≤ 16 := by rw [hexL_length, List.length_take]; omega
    have hes : (s.extract 0 8).size ≤ 8 := by rw [← str_len, HE.out, List.length_take]; omega
    generalize hA : Lib.decDigits s.size = A at *
    have HA := Lib.hid hA; clear hA
    generalize hB : hexL (s.data.toList.take 8) = B at *
    have HB := Lib.hid hB; clear hB
    go_enter Tryd.func23, Tryd.ntmps23
    go_wp2_with fail
    go_region_with (first | (go_at_call 32; refine (keeps (rdigits_any (s.size + 1) (s.size : Int) _ (by omega) (by omega) (by omega))).mono ?_; rw [Int.toNat_natCast, HA.out]; rintro e w1 ⟨rfl, rfl⟩) | (go_at_call 25; refine (rhex_any (s.extract 0 8) _ (by omega)).mono ?_; rw [HE.out, HB.out]; rintro e w2 ⟨rfl, hb2⟩))
    all_goals
      go_wp2_with fail
      go_ret
      exact ⟨by rw [HS.out, ← str_append, ← str_append, ← str_append]; rfl, ((Below.refl w.heap.size w).drew).trans hb2⟩
  · have HS : Hid (shortV s.data.toList = (Lib.decDigits s.size ++ [58]) ++ hexL s.data.toList) := by
      show _ = _; unfold shortV; rw [str_len, itoa_nat, if_neg h8, List.append_nil, List.take_of_length_le (by rw [str_len]; omega)]
    have h16 : (hexL s.data.toList).length ≤ 16 := by rw [hexL_length, str_len]; omega
    generalize hA : Lib.decDigits s.size = A at *
    have HA := Lib.hid hA; clear hA
    generalize hB : hexL s.data.toList = B at *
    have HB := Lib.hid hB; clear hB
    go_enter Tryd.func23, Tryd.ntmps23
    go_wp2_with (first | (go_at_call 32; refine (keeps (rdigits_any (s.size + 1) (s.size : Int) _ (by omega) (by omega) (by omega))).mono ?_; rw [Int.toNat_natCast, HA.out]; rintro e w1 ⟨rfl, rfl⟩) | (go_at_call 25; refine (rhex_any s _ (by omega)).mono ?_; rw [HB.out]; rintro e w2 ⟨rfl, hb2⟩))
    go_ret
    exact ⟨by rw [HS.out, ← str_append, ← str_append]; rfl, hb2⟩
end Go.Proofs.YtmkeiphhenhhbaaDoor
