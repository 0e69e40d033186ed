/-
  Configurations: what the reference's Text computes; texts and their words.
  Conditions: none.
-/
import Derived.Test.YtllgnogiicdhfaaDoorWl
import Derived.Test.YtllgnogiicdhfaaDoorParRef
set_option linter.unusedVariables false
namespace Go.Proofs.YtllgnogiicdhfaaDoor
open Go Go.RowKit

/-- The first numbers, each with a space behind it. -/
def preS (L : List Int) (n : Nat) : ByteArray := pack ((digW L n).flatMap fun x => x.data.toList ++ [32])
theorem preS_succ (L : List Int) (n : Nat) : preS L (n + 1) = (preS L n ++ digS L n) ++ ⟨#[32]⟩ := by
  unfold preS
  rw [digW_succ, List.flatMap_append]
  apply ByteArray.ext
  apply Array.ext'
  simp [pack]
theorem join_pre : ∀ (xs : List ByteArray) (y : ByteArray), Lib.join ((xs ++ [y]).map (·.data.toList)) [32] = xs.flatMap (fun x => x.data.toList ++ [32]) ++ y.data.toList
  | [], y => by simp [Lib.join_one]
  | x :: t, y => by
    have ih := join_pre t y
    rw [List.cons_append, List.map_cons]
    cases hm : (t ++ [y]).map (·.data.toList) with
    | nil => simp at hm
    | cons a b =>
      rw [join_two, ← hm, ih]
      simp
theorem preS_text (S Z R W K V P : Int) : (preS [S, Z, R, W, K, V] 6 ++ polS P).data.toList = textL S Z R W K V P := by
  unfold textL
  rw [join_pre]
  simp [preS, pack]
theorem lens_flat (xs : List ByteArray) (k : Nat) (h : ∀ x ∈ xs, x.data.toList.length ≤ k) : (xs.flatMap fun x => x.data.toList ++ [32]).length ≤ (k + 1) * xs.length := by
  induction xs with
  | nil => simp
  | cons x r ih =>
    have h1 := h x (by simp)
    have h2 := ih fun y hy => h y (by simp [hy])
    rw [List.flatMap_cons, List.length_append, List.length_append]
    show _ + 1 + _ ≤ (k + 1) * (r.length + 1)
    rw [Nat.mul_succ]
    omega
theorem preS_size (L : List Int) (n : Nat) (h : ∀ j, j < n → 0 ≤ L.getD j 0 ∧ L.getD j 0 ≤ 65536) : (preS L n).size ≤ 21 * n := by
  rw [← str_len]
  unfold preS
  rw [pack_data]
  have := lens_flat (digW L n) 20 (by
    intro x hx
    unfold digW at hx
    rw [List.mem_map] at hx
    obtain ⟨j, hj, rfl⟩ := hx
    exact digS_len L j (h j (by simpa using hj)))
  rw [digW_length] at this
  exact this

set_option maxRecDepth 100000 in
set_option maxHeartbeats 8000000 in
theorem rText_any (S Z R W K V P : Int) (w : World) (v : ByteArray) (e : Int) (h : (v.data.toList = textL S Z R W K V P ∧ e = 0 ∧ cfgE S Z R W K V P = 0) ∨ (v = ⟨#[]⟩ ∧ e = 2 ∧ cfgE S Z R W K V P = 2)) :
    Calls Tryd.prog 22 #[cfgV S Z R W K V P] w fun x w' => x = .returned (.tuple #[.string v, .int .i64 e]) ∧ Below w.heap.size w w' := by
  rcases h with ⟨hv, rfl, h⟩ | ⟨rfl, rfl, h⟩
  · rcases cfg_cases S Z R W K V P with ⟨_, h0, h1, h2, h3, h4, h5, h6⟩ | h'
    · have HE := Lib.hid h
      have HV : Hid (preS [S, Z, R, W, K, V] 6 ++ polS P = v) := by
        show _ = _
        apply ByteArray.ext
        apply Array.ext'
        rw [hv]
        exact preS_text S Z R W K V P
      have HF : Hid (∀ j, j < 6 → 0 ≤ [S, Z, R, W, K, V].getD j 0 ∧ [S, Z, R, W, K, V].getD j 0 ≤ 65536) := by
        intro j hj
        match j, hj with
        | 0, _ => show 0 ≤ S ∧ S ≤ 65536; omega
        | 1, _ => show 0 ≤ Z ∧ Z ≤ 65536; omega
        | 2, _ => show 0 ≤ R ∧ R ≤ 65536; omega
        | 3, _ => show 0 ≤ W ∧ W ≤ 65536; omega
        | 4, _ => show 0 ≤ K ∧ K ≤ 65536; omega
        | 5, _ => show 0 ≤ V ∧ V ≤ 65536; omega
      clear h h0 h1 h2 h3 h4 h5 hv
      go_enter Tryd.func22, Tryd.ntmps22
      go_wp2_with fail
      refine (rcheck_any S Z R W K V P _).mono ?_
      rw [HE.out]
      rintro e w1 ⟨rfl, b1⟩
      have c1 := ((Below.refl w.heap.size w).alloc (Nat.le_refl _) (.cells #[.int .i64 S, .int .i64 Z, .int .i64 R, .int .i64 W, .int .i64 K, .int .i64 V, .int .i64 P] 23)).trans (b1.mono (by simp))
      obtain ⟨k0, k1, k2, k3, k4, k5, k6⟩ := cfgAt_new w S Z R W K V P 23
      have k0 := cell_kept k0 b1
      have k1 := cell_kept k1 b1
      have k2 := cell_kept k2 b1
      have k3 := cell_kept k3 b1
      have k4 := cell_kept k4 b1
      have k5 := cell_kept k5 b1
      have k6 := cell_kept k6 b1
      clear b1
      go_wp2_with fail
      have HL0 : Hid (ListAt (w1.alloc (.cells #[.int .i64 S, .int .i64 Z, .int .i64 R, .int .i64 W, .int .i64 K, .int .i64 V] 3)) w1.heap.size [S, Z, R, W, K, V]) := listAt_new w1 [S, Z, R, W, K, V] 3
      have c2 := c1.alloc c1.size (.cells #[.int .i64 S, .int .i64 Z, .int .i64 R, .int .i64 W, .int .i64 K, .int .i64 V] 3)
      have k6' := cell_old (o := .cells #[.int .i64 S, .int .i64 Z, .int .i64 R, .int .i64 W, .int .i64 K, .int .i64 V] 3) k6
      have hp0 : preS [S, Z, R, W, K, V] 0 = ⟨#[]⟩ := rfl
      clear c1 k0 k1 k2 k3 k4 k5 k6
      go_loopw [5, 6] (fun vs vi wr => ∃ i : Nat, i ≤ 6 ∧ vi = .int .i64 i ∧ vs = .string (preS [S, Z, R, W, K, V] i) ∧ Hid (ListAt wr w1.heap.size [S, Z, R, W, K, V]) ∧ wr.cell? ⟨w.heap.size, 6, none⟩ = some (.int .i64 P) ∧ Below w.heap.size w wr) (fun _ vi _ => 6 - (intOf vi).toNat)
      case atStart => exact ⟨0, Nat.zero_le _, rfl, by rw [hp0], HL0, k6', c2⟩
      case round =>
        clear HL0 c2 k6'
        obtain ⟨i, hi, rfl, rfl, hL, kP, c3⟩ := hrel
        by_cases hlt : i < 6
        · have hca := hL.out i hlt
          have hfb := HF.out i hlt
          have hsn := preS_succ [S, Z, R, W, K, V] i
          have hsz := preS_size [S, Z, R, W, K, V] i (fun j hj => HF.out j (by omega))
          have hdl := digS_len [S, Z, R, W, K, V] i hfb
          rw [str_len] at hdl
          obtain ⟨u, hu⟩ : ∃ u : Nat, [S, Z, R, W, K, V].getD i 0 = (u : Int) := ⟨([S, Z, R, W, K, V].getD i 0).toNat, by omega⟩
          have hdg : digS [S, Z, R, W, K, V] i = ⟨(Lib.decDigits u).toArray⟩ := by unfold digS; rw [hu, Int.toNat_natCast]
          rw [hu] at hca hfb
          have hu2 : u ≤ 65536 := by omega
          have wu : IntKind.u64.wrap (u : Int) = (u : Int) := wrap_u64 (m := u) rfl (by have : (256 : Nat) ^ 8 = 18446744073709551616 := by decide
                                                                                        omega)
          obtain ⟨D, hD⟩ : ∃ D : ByteArray, (⟨(Lib.decDigits u).toArray⟩ : ByteArray) = D := ⟨_, rfl⟩
          rw [hD] at hdg
          rw [hdg] at hsn hdl
          obtain ⟨A, hA⟩ : ∃ A, preS [S, Z, R, W, K, V] i = A := ⟨_, rfl⟩
          rw [hA] at hsn hsz
          rw [hA]
          have HD := Lib.hid hD
          have HSn := Lib.hid hsn
          clear hu hdg hD hsn hfb hA
          go_wp2_with fail
          refine (keeps (rdigits01_any (u + 1) u _ (Nat.lt_succ_self u) (by omega))).mono ?_
          rw [HD.out]
          rintro e w3 ⟨rfl, rfl⟩
          go_wp2_with fail
          go_roundw
          case rel => exact ⟨i + 1, by omega, by go_num, by rw [HSn.out], hL, kP, c3⟩
          case measure => simp [intOf]; omega
        · obtain rfl : i = 6 := by omega
          clear hlt hi
          have hsz := preS_size [S, Z, R, W, K, V] 6 (fun j hj => HF.out j (by omega))
          obtain ⟨A, hA⟩ : ∃ A, preS [S, Z, R, W, K, V] 6 = A := ⟨_, rfl⟩
          rw [hA] at hsz
          have HVA : Hid (A ++ polS P = v) := by show _ = _; rw [← hA]; exact HV.out
          rw [hA]
          clear hA
          rcases (show P = 1 ∨ P = 2 by omega) with rfl | rfl
          · go_wp2_with fail
            go_ret2
            exact ⟨by rw [← HVA.out]; rfl, c3⟩
          · go_wp2_with fail
            go_ret2
            exact ⟨by rw [← HVA.out]; rfl, c3⟩
    · rw [h] at h'; cases h'
  · skip
    have HE := Lib.hid h
    clear h
    go_enter Tryd.func22, Tryd.ntmps22
    go_wp2_with fail
    refine (rcheck_any S Z R W K V P _).mono ?_
    rw [HE.out]
    rintro e w1 ⟨rfl, b1⟩
    have c1 := ((Below.refl w.heap.size w).alloc (Nat.le_refl _) (.cells #[.int .i64 S, .int .i64 Z, .int .i64 R, .int .i64 W, .int .i64 K, .int .i64 V, .int .i64 P] 23)).trans (b1.mono (by simp))
    clear b1
    go_wp2_with fail
    go_ret2
    exact ⟨rfl, c1⟩
end Go.Proofs.YtllgnogiicdhfaaDoor
