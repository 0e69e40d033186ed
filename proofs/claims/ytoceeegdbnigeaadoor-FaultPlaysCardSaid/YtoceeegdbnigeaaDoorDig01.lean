/-
  Plain Lean, no program: what decimal strings of uint64 decode to.
  Conditions: none.
-/
import Derived.Test.YtoceeegdbnigeaaDoorPlain01
import Derived.Test.YtoceeegdbnigeaaDoorLaws06b
import Derived.Lib.ParseIntB
namespace Go.Proofs.YtoceeegdbnigeaaDoor
open Go Go.RowKit

def isDig (c : UInt8) : Bool := decide (48 ≤ c.toNat) && decide (c.toNat ≤ 57)
theorem isDig_iff (c : UInt8) : isDig c = true ↔ 48 ≤ c.toNat ∧ c.toNat ≤ 57 := by unfold isDig; simp
def allDig (l : List UInt8) : Bool := l.all isDig
def lead (l : List UInt8) : Bool := decide (l.length = 0) || (decide (1 < l.length) && decide (l.getD 0 0 = 48))
def M64 : Nat := 18446744073709551616
def digV (l : List UInt8) : Nat × Int := if allDig l = false ∨ lead l = true then (0, 8) else if M64 ≤ dval l then (0, 16) else (dval l, 0)
theorem digV_bad {l : List UInt8} (h : allDig l = false) : digV l = (0, 8) := by unfold digV; rw [if_pos (Or.inl h)]
theorem digV_lead {l : List UInt8} (h : lead l = true) : digV l = (0, 8) := by unfold digV; rw [if_pos (Or.inr h)]
theorem digV_over {l : List UInt8} (h1 : allDig l = true) (h2 : lead l = false) (h3 : M64 ≤ dval l) : digV l = (0, 16) := by
  unfold digV; rw [if_neg (by rw [h1, h2]; simp), if_pos h3]
theorem digV_ok {l : List UInt8} (h1 : allDig l = true) (h2 : lead l = false) (h3 : dval l < M64) : digV l = (dval l, 0) := by
  unfold digV; rw [if_neg (by rw [h1, h2]; simp), if_neg (by omega)]
theorem allDig_of {l : List UInt8} (h : ∀ j, j < l.length → isDig (l.getD j 0) = true) : allDig l = true := by
  unfold allDig
  rw [List.all_eq_true]
  intro c hc
  obtain ⟨j, hj, rfl⟩ := List.mem_iff_getElem.mp hc
  have := h j hj
  rw [List.getD, List.getElem?_eq_getElem hj] at this
  exact this
theorem allDig_bad {l : List UInt8} (j : Nat) (hj : j < l.length) (h : isDig (l.getD j 0) = false) : allDig l = false := by
  unfold allDig
  rw [List.all_eq_false]
  refine ⟨l.getD j 0, ?_, by rw [h]; decide⟩
  rw [List.getD, List.getElem?_eq_getElem hj]
  exact List.getElem_mem hj
theorem dval_from (l : List UInt8) : ∀ m, l.foldl (fun n c => n * 10 + (c.toNat - 48)) m = m * 10 ^ l.length + dval l := by
  induction l with
  | nil => intro m; simp [dval]
  | cons c r ih =>
    intro m
    rw [List.foldl_cons, ih, List.length_cons, Nat.pow_succ]
    have : dval (c :: r) = (c.toNat - 48) * 10 ^ r.length + dval r := by
      unfold dval
      rw [List.foldl_cons, ih]
      simp [dval]
    rw [this, Nat.add_mul, Nat.mul_assoc, Nat.mul_comm 10, Nat.add_assoc]
theorem dval_cons (c : UInt8) (r : List UInt8) : dval (c :: r) = (c.toNat - 48) * 10 ^ r.length + dval r := by
  unfold dval
  rw [List.foldl_cons, dval_from]
  simp [dval]
theorem dval_lt {l : List UInt8} (h : allDig l = true) : dval l < 10 ^ l.length := by
  induction l with
  | nil => simp [dval]
  | cons c r ih =>
    simp only [allDig, List.all_cons, Bool.and_eq_true] at h
    have h1 := (isDig_iff c).mp h.1
    have h2 := ih h.2
    rw [dval_cons, List.length_cons, Nat.pow_succ]
    have h3 : (c.toNat - 48) * 10 ^ r.length ≤ 9 * 10 ^ r.length := Nat.mul_le_mul_right _ (by omega)
    omega
theorem less_digits : ∀ (a b : List UInt8), a.length = b.length → allDig a = true → allDig b = true → Op.bytesLess a b = decide (dval a < dval b)
  | [], [], _, _, _ => rfl
  | [], _ :: _, h, _, _ => by simp at h
  | _ :: _, [], h, _, _ => by simp at h
  | x :: r, y :: t, h, ha, hb => by
    simp only [allDig, List.all_cons, Bool.and_eq_true] at ha hb
    have hl : r.length = t.length := by simpa using h
    have ih := less_digits r t hl ha.2 hb.2
    have hx := (isDig_iff x).mp ha.1
    have hy := (isDig_iff y).mp hb.1
    have hr := dval_lt (l := r) ha.2
    have ht := dval_lt (l := t) hb.2
    rw [Op.bytesLess, ih, dval_cons, dval_cons, ← hl]
    rw [← hl] at ht
    rcases Nat.lt_trichotomy x.toNat y.toNat with hlt | heq | hgt
    · have e1 : (x < y) := UInt8.lt_iff_toNat_lt.mpr hlt
      have h3 : (x.toNat - 48) * 10 ^ r.length + 10 ^ r.length ≤ (y.toNat - 48) * 10 ^ r.length := by
        rw [← Nat.succ_mul]; exact Nat.mul_le_mul_right _ (by omega)
      rw [decide_eq_true e1, Bool.true_or, decide_eq_true (show (x.toNat - 48) * 10 ^ r.length + dval r < (y.toNat - 48) * 10 ^ r.length + dval t by omega)]
    · have e1 : x = y := UInt8.toNat_inj.mp heq
      subst e1
      simp
    · have e1 : ¬ (x < y) := fun hc => by have := UInt8.lt_iff_toNat_lt.mp hc; omega
      have e2 : ¬ x = y := fun hc => by rw [hc] at hgt; omega
      have h3 : (y.toNat - 48) * 10 ^ r.length + 10 ^ r.length ≤ (x.toNat - 48) * 10 ^ r.length := by
        rw [← Nat.succ_mul]; exact Nat.mul_le_mul_right _ (by omega)
      rw [decide_eq_false e1, beq_eq_false_iff_ne.mpr e2, Bool.false_and, Bool.false_or, decide_eq_false (show ¬ (x.toNat - 48) * 10 ^ r.length + dval r < (y.toNat - 48) * 10 ^ r.length + dval t by omega)]
/-- 'not less and not equal' is 'less the other way'. -/
theorem gtr_less : ∀ (a b : List UInt8), (!Op.bytesLess a b && !(a == b)) = Op.bytesLess b a
  | [], [] => rfl
  | [], _ :: _ => rfl
  | _ :: _, [] => rfl
  | x :: r, y :: t => by
    have ih := gtr_less r t
    rw [Op.bytesLess, Op.bytesLess, List.cons_beq_cons, ← ih]
    rcases Nat.lt_trichotomy x.toNat y.toNat with hlt | heq | hgt
    · have e1 : x < y := UInt8.lt_iff_toNat_lt.mpr hlt
      have e2 : ¬ y < x := fun hc => by have := UInt8.lt_iff_toNat_lt.mp hc; omega
      have e3 : (y == x) = false := beq_eq_false_iff_ne.mpr (fun hc => by rw [hc] at hlt; omega)
      rw [decide_eq_true e1, decide_eq_false e2, e3]
      rfl
    · have e1 : x = y := UInt8.toNat_inj.mp heq
      subst e1
      have e2 : ¬ x < x := fun hc => by have := UInt8.lt_iff_toNat_lt.mp hc; omega
      rw [decide_eq_false e2, beq_self_eq_true]
      simp
    · have e1 : ¬ x < y := fun hc => by have := UInt8.lt_iff_toNat_lt.mp hc; omega
      have e2 : y < x := UInt8.lt_iff_toNat_lt.mpr hgt
      have e3 : (x == y) = false := beq_eq_false_iff_ne.mpr (fun hc => by rw [hc] at hgt; omega)
      rw [decide_eq_false e1, decide_eq_true e2, e3]
      rfl
/-- The digits of the greatest uint64. -/
def mostL : List UInt8 := [49, 56, 52, 52, 54, 55, 52, 52, 48, 55, 51, 55, 48, 57, 53, 53, 49, 54, 49, 53]
theorem mostL_val : dval mostL = 18446744073709551615 := by decide
theorem mostL_dig : allDig mostL = true := by decide
/-- Codec's test: longer than the greatest number's digits, or as long and behind them. -/
def overT (l : List UInt8) : Bool := decide (20 < l.length) || (decide (l.length = 20) && Op.bytesLess mostL l)
theorem overT_iff {l : List UInt8} (h1 : allDig l = true) (h2 : lead l = false) : overT l = decide (M64 ≤ dval l) := by
  unfold overT
  by_cases h20 : 20 < l.length
  · have hbig : M64 ≤ dval l := by
      match l, h2, h20, h1 with
      | c :: r, h2, h20, h1 =>
        simp only [allDig, List.all_cons, Bool.and_eq_true] at h1
        have hc := (isDig_iff c).mp h1.1
        have hne : ¬ c = 48 := by
          intro e
          rw [e] at h2
          have hl1 : 1 < ((48 : UInt8) :: r).length := by simp at h20 ⊢; omega
          have h2t : lead (48 :: r) = true := by
            unfold lead
            rw [decide_eq_true hl1]
            simp
          rw [h2t] at h2
          cases h2
        have hc49 : 49 ≤ c.toNat := by
          have : ¬ c.toNat = 48 := fun e => hne (UInt8.toNat_inj.mp e)
          omega
        rw [dval_cons]
        have hp : 10 ^ 20 ≤ 10 ^ r.length := Nat.pow_le_pow_right (by decide) (by simp at h20; omega)
        have h3 : 1 * 10 ^ r.length ≤ (c.toNat - 48) * 10 ^ r.length := Nat.mul_le_mul_right _ (by omega)
        have : M64 ≤ 10 ^ 20 := by decide
        omega
    simp [h20, hbig]
  · by_cases he : l.length = 20
    · rw [less_digits mostL l (by rw [he]; rfl) mostL_dig h1, mostL_val]
      rw [decide_eq_false h20, decide_eq_true he, Bool.false_or, Bool.true_and]
      exact decide_eq_decide.mpr (by unfold M64; omega)
    · have hlt := dval_lt h1
      have hp : 10 ^ l.length ≤ 10 ^ 19 := Nat.pow_le_pow_right (by decide) (by omega)
      have hn : ¬ M64 ≤ dval l := by
        have : 10 ^ 19 < M64 := by decide
        omega
      simp [h20, he, hn]
theorem most_dec : Lib.decDigits 18446744073709551615 = mostL := by
  simp [Lib.decDigits, mostL]
theorem parse_from : ∀ (l : List UInt8) (acc : Nat), allDig l = true → l.foldl (fun n c => n * 10 + (c.toNat - 48)) acc < M64 → Lib.parseUintM (2 ^ 64 - 1) acc l = .ok (l.foldl (fun n c => n * 10 + (c.toNat - 48)) acc)
  | [], acc, _, _ => rfl
  | c :: r, acc, h, hm => by
    simp only [allDig, List.all_cons, Bool.and_eq_true] at h
    have hc := (isDig_iff c).mp h.1
    rw [List.foldl_cons] at hm ⊢
    have hge : acc * 10 + (c.toNat - 48) < M64 := by
      rw [dval_from] at hm
      have : (acc * 10 + (c.toNat - 48)) * 1 ≤ (acc * 10 + (c.toNat - 48)) * 10 ^ r.length := Nat.mul_le_mul_left _ (Nat.pow_pos (by decide))
      omega
    have hM : M64 = 18446744073709551616 := rfl
    rw [Lib.parseUintM, if_pos hc, if_neg (by omega), if_neg (by omega)]
    exact parse_from r _ h.2 hm
theorem parse_ok {l : List UInt8} (h1 : allDig l = true) (h2 : lead l = false) (h3 : dval l < M64) : Lib.parseUintB 64 l = .ok (dval l) := by
  unfold Lib.parseUintB
  rw [if_neg (by intro e; rw [e] at h2; simp [lead] at h2)]
  exact parse_from l 0 h1 h3
end Go.Proofs.YtoceeegdbnigeaaDoor
