/-
  Plain Lean, no program: how a slice of bytes reads in memory; hexadecimal digits of bytes and back.
  Conditions: none.
-/
import Derived.WalkKit
import Derived.Lib.Strings
import Derived.Lib.UnsafeStr
import Derived.Lib.Builder
import Derived.Lib.ItoaNum
import Derived.Laws.IdiomStrings
import Derived.Laws.BitsLemmas
import Derived.Deep.AppendLies
namespace Go.Proofs.YtoceeegdbnigeaaDoor
open Go Go.RowKit

/-- The value v is a slice that reads as the bytes l in the world w. -/
def BytesAt (w : World) (v : Value) (l : List UInt8) : Prop :=
  ∃ p c, v = .slice p l.length c ∧ l.length ≤ c ∧ (0 < l.length → ∃ b o, p = some ⟨b, o, none⟩ ∧ ∀ i, i < l.length → w.cell? ⟨b, o + i, none⟩ = some (.int .u8 ((l.getD i 0).toNat : Int)))

theorem BytesAt.below {w w' : World} {v : Value} {l : List UInt8} (h : BytesAt w v l) (hb : Below w.heap.size w w') : BytesAt w' v l := by
  obtain ⟨p, c, hv, hc, hp⟩ := h
  refine ⟨p, c, hv, hc, fun h0 => ?_⟩
  obtain ⟨b, o, h1, h2⟩ := hp h0
  refine ⟨b, o, h1, fun i hi => ?_⟩
  have := h2 i hi
  rw [hb.cell (p := ⟨b, o + i, none⟩) (World.block_lt_of_cell? w _ this)]
  exact this

theorem BytesAt.drew {w : World} {v : Value} {l : List UInt8} (h : BytesAt w v l) : BytesAt w.drew v l := h

theorem BytesAt.of_owns {w : World} {B e : Nat} {v : Value} {l : List UInt8} (h : w.ownsRow B e 1 v l.length (Lib.byteCells l)) : BytesAt w v l := by
  rcases h.2 with ⟨hv, h0⟩ | ⟨g, cap, cur, hv, hg, hh, hc, hm, hs, ht⟩
  · exact ⟨none, 0, by rw [hv, h0], by omega, fun h => by omega⟩
  · refine ⟨some ⟨g, 0, none⟩, cap, hv, hc, fun h0 => ⟨g, 0, rfl, fun i hi => ?_⟩⟩
    have hcl := h.cells (g := g) (by rw [hv]; rfl) i (.int .u8 ((l.getD i 0).toNat : Int)) (by simp [Lib.byteCells, hi])
    have ha : (⟨g, 0, none⟩ : Addr).add i = ⟨g, 0 + i, none⟩ := by unfold Addr.add; split <;> simp_all
    rw [← ha]; exact hcl

theorem BytesAt.nil (w : World) (p : Option Addr) (c : Nat) : BytesAt w (.slice p 0 c) [] := ⟨p, c, rfl, Nat.zero_le _, fun h => absurd h (Nat.lt_irrefl 0)⟩

/-- What string(v) gives of such a slice. -/
theorem BytesAt.convert {P : Program} {w : World} {v : Value} {l : List UInt8} (h : BytesAt w v l) (src dst e : TypeId) (hs : P.underlying src = some (.slice e)) (he : P.underlying e = some (.int .u8)) (hd : P.underlying dst = some .string) :
    (convert src dst v).run P w = .ok (.string ⟨l.toArray⟩) w := by
  obtain ⟨p, c, hv, hc, hp⟩ := h
  subst hv
  cases l with
  | nil =>
    rw [run_convert_bytes_string w src dst e p _ c hs he hd]
    cases p with
    | none => rfl
    | some a =>
      have hl := run_loadCells_list (P := P) w a [] (fun j v hj => by simp at hj)
      have := run_bytesToString (P := P) w a 0 c [] (by simpa using hl)
      exact this
  | cons x r =>
    obtain ⟨b, o, h1, h2⟩ := hp (by simp)
    rw [h1]
    refine run_convert_bytes_back w src dst e ⟨b, o, none⟩ c (x :: r) hs he hd (fun j hj => ?_)
    have ha : (⟨b, o, none⟩ : Addr).add j = ⟨b, o + j, none⟩ := by unfold Addr.add; split <;> simp_all
    rw [ha, h2 j hj, List.getD, List.getElem?_eq_getElem hj]
    rfl

/-- The world behind '[]byte(s)', and what its slice reads as. -/
theorem BytesAt.of_string (w : World) (s : ByteArray) (e : Nat) (C : Nat) (hC : s.size ≤ C) (fz : Nat × Nat) :
    BytesAt (w.alloc (.cells (bytesRow s C) e fz)) (.slice (some ⟨w.heap.size, 0, none⟩) s.size C) s.data.toList := by
  have hsz : s.data.toList.length = s.size := Array.length_toList
  refine ⟨_, C, by rw [hsz], by omega, fun _ => ⟨w.heap.size, 0, rfl, fun i hi => ?_⟩⟩
  have hh : (w.alloc (.cells (bytesRow s C) e fz)).heap[w.heap.size]? = some (.cells (bytesRow s C) e fz) := by
    show (w.heap.push _)[w.heap.size]? = _
    simp
  rw [Lib.cell_of_heap hh, Nat.zero_add]
  have hi' : i < s.data.size := by rw [← Array.length_toList]; exact hi
  unfold bytesRow
  rw [Array.getElem?_append_left (by rw [Array.size_map]; exact hi'), Array.getElem?_map, Array.getElem?_eq_getElem hi']
  simp [List.getD, Array.getElem?_toList, Array.getElem?_eq_getElem hi']

def hexD (n : Nat) : UInt8 := if n < 10 then (48 + n).toUInt8 else (87 + n).toUInt8
def hexL : List UInt8 → List UInt8
  | [] => []
  | c :: r => hexD (c.toNat / 16) :: hexD (c.toNat % 16) :: hexL r
theorem hexL_length (l : List UInt8) : (hexL l).length = 2 * l.length := by
  induction l with
  | nil => rfl
  | cons c r ih => simp [hexL, ih]; omega
theorem hexL_append (a b : List UInt8) : hexL (a ++ b) = hexL a ++ hexL b := by
  induction a with
  | nil => rfl
  | cons c r ih => simp [hexL, ih]
theorem hexL_take_succ (l : List UInt8) (k : Nat) (h : k < l.length) : hexL (l.take (k + 1)) = hexL (l.take k) ++ [hexD ((l.getD k 0).toNat / 16), hexD ((l.getD k 0).toNat % 16)] := by
  rw [List.take_succ_eq_append_getElem h, hexL_append]
  simp [hexL, List.getD, h]
theorem owns_hex {w : World} {B e : Nat} {v : Value} {l : List UInt8} {k : Nat} {x : UInt8} (hk : k < l.length) (hx : x = l.getD k 0)
    (h : w.ownsRow B e 1 v ((hexL (l.take k)).length + 2) (Lib.byteCells (hexL (l.take k)) ++ [Value.int .u8 ((hexD ((x.toNat : Int) / 16).toNat).toNat : Int), Value.int .u8 ((hexD ((x.toNat : Int) % 16).toNat).toNat : Int)])) :
    w.ownsRow B e 1 v (hexL (l.take (k + 1))).length (Lib.byteCells (hexL (l.take (k + 1)))) := by
  subst hx
  rw [hexL_take_succ l k hk, Lib.byteCells_append, List.length_append]
  have e1 : (((l.getD k 0).toNat : Int) / 16).toNat = (l.getD k 0).toNat / 16 := by omega
  have e2 : (((l.getD k 0).toNat : Int) % 16).toNat = (l.getD k 0).toNat % 16 := by omega
  rw [e1, e2] at h
  exact h
theorem ret_int {k : IntKind} {a b : Int} (h : a = b) : Ending.returned (.int k a) = .returned (.int k b) := by rw [h]

/-- The number of a hexadecimal digit; -1: it is none. -/
def nib (c : Int) : Int := if 48 ≤ c ∧ c ≤ 57 then c - 48 else if 97 ≤ c ∧ c ≤ 102 then c - 87 else -1
theorem nib_range (c : Int) : -1 ≤ nib c ∧ nib c ≤ 15 := by unfold nib; repeat (first | split | omega)
def pairByte (a b : UInt8) : UInt8 := UInt8.ofNat (16 * nib (a.toNat : Int) + nib (b.toNat : Int)).toNat
def pairBad (a b : UInt8) : Bool := decide (nib (a.toNat : Int) < 0) || decide (nib (b.toNat : Int) < 0)
/-- The bytes of hexadecimal digits. -/
def unhex : List UInt8 → Option (List UInt8)
  | [] => some []
  | [_] => none
  | a :: b :: r => if pairBad a b = true then none else (unhex r).map (pairByte a b :: ·)
theorem unhex_snoc : ∀ (l : List UInt8) (a b : UInt8), l.length % 2 = 0 → unhex (l ++ [a, b]) = (unhex l).bind fun t => if pairBad a b = true then none else some (t ++ [pairByte a b])
  | [], a, b, _ => by simp [unhex]
  | [_], _, _, h => by simp at h
  | x :: y :: r, a, b, h => by
    have h' : r.length % 2 = 0 := by simp at h; omega
    have ih := unhex_snoc r a b h'
    simp only [List.cons_append, unhex]
    by_cases hb : pairBad x y = true
    · simp [hb]
    · simp only [hb, if_false, Bool.false_eq_true]
      rw [ih]
      cases unhex r with
      | none => rfl
      | some t => by_cases hc : pairBad a b = true <;> simp [hc]
theorem unhex_none : ∀ (l r : List UInt8), l.length % 2 = 0 → unhex l = none → unhex (l ++ r) = none
  | [], _, _, h => by simp [unhex] at h
  | [_], _, h, _ => by simp at h
  | x :: y :: t, r, h, hn => by
    have h' : t.length % 2 = 0 := by simp at h; omega
    simp only [List.cons_append, unhex] at hn ⊢
    by_cases hb : pairBad x y = true
    · simp [hb]
    · simp only [hb, if_false, Bool.false_eq_true] at hn ⊢
      have : unhex t = none := by cases ht : unhex t <;> simp_all
      rw [unhex_none t r h' this]; rfl
theorem unhex_odd : ∀ (l : List UInt8), l.length % 2 = 1 → unhex l = none
  | [], h => by simp at h
  | [_], _ => rfl
  | x :: y :: t, h => by
    have h' : t.length % 2 = 1 := by simp at h; omega
    simp only [unhex]
    rw [unhex_odd t h']
    split <;> rfl
theorem unhex_length : ∀ (l t : List UInt8), unhex l = some t → l.length = 2 * t.length
  | [], t, h => by simp [unhex] at h; subst h; rfl
  | [_], t, h => by simp [unhex] at h
  | x :: y :: r, t, h => by
    simp only [unhex] at h
    split at h
    · cases h
    · cases hr : unhex r with
      | none => rw [hr] at h; cases h
      | some u =>
        rw [hr] at h
        simp at h
        subst h
        have := unhex_length r u hr
        simp; omega
theorem take_two (l : List UInt8) (k : Nat) (h : 2 * k + 1 < l.length) : l.take (2 * (k + 1)) = l.take (2 * k) ++ [l.getD (2 * k) 0, l.getD (2 * k + 1) 0] := by
  have e1 : 2 * (k + 1) = (2 * k + 1) + 1 := by omega
  have g1 : l.getD (2 * k) 0 = l[2 * k]'(by omega) := by rw [List.getD, List.getElem?_eq_getElem (show 2 * k < l.length by omega)]; rfl
  have g2 : l.getD (2 * k + 1) 0 = l[2 * k + 1]'h := by rw [List.getD, List.getElem?_eq_getElem h]; rfl
  rw [e1, List.take_succ_eq_append_getElem h, List.take_succ_eq_append_getElem (show 2 * k < l.length by omega), List.append_assoc, g1, g2]
  rfl
/-- One more pair of digits. -/
theorem unhex_step (l acc : List UInt8) (k : Nat) (h : 2 * k + 1 < l.length) (ha : unhex (l.take (2 * k)) = some acc) (hb : pairBad (l.getD (2 * k) 0) (l.getD (2 * k + 1) 0) = false) :
    unhex (l.take (2 * (k + 1))) = some (acc ++ [pairByte (l.getD (2 * k) 0) (l.getD (2 * k + 1) 0)]) := by
  rw [take_two l k h, unhex_snoc _ _ _ (by rw [List.length_take]; omega), ha]
  simp only [Option.bind_some, hb, Bool.false_eq_true, if_false]
theorem unhex_stop (l : List UInt8) (k : Nat) (h : 2 * k + 1 < l.length) (hb : pairBad (l.getD (2 * k) 0) (l.getD (2 * k + 1) 0) = true) : unhex l = none := by
  have h2 : unhex (l.take (2 * (k + 1))) = none := by
    rw [take_two l k h, unhex_snoc _ _ _ (by rw [List.length_take]; omega)]
    cases unhex (l.take (2 * k)) with
    | none => rfl
    | some t => simp only [Option.bind_some, hb, if_true]
  have := unhex_none (l.take (2 * (k + 1))) (l.drop (2 * (k + 1))) (by rw [List.length_take]; omega) h2
  rwa [List.take_append_drop] at this
theorem unhex_stepj (l acc : List UInt8) (j : Nat) (hj : j % 2 = 0) (h : j + 1 < l.length) (ha : unhex (l.take j) = some acc) (hb : pairBad (l.getD j 0) (l.getD (j + 1) 0) = false) :
    unhex (l.take (j + 2)) = some (acc ++ [pairByte (l.getD j 0) (l.getD (j + 1) 0)]) := by
  have e : j = 2 * (j / 2) := by omega
  have h1 := unhex_step l acc (j / 2) (by omega) (by rw [← e]; exact ha)
  rw [← e] at h1
  rw [show j + 2 = 2 * (j / 2 + 1) by omega]
  exact h1 hb
theorem unhex_stopj (l : List UInt8) (j : Nat) (hj : j % 2 = 0) (h : j + 1 < l.length) (hb : pairBad (l.getD j 0) (l.getD (j + 1) 0) = true) : unhex l = none := by
  have e : j = 2 * (j / 2) := by omega
  have h1 := unhex_stop l (j / 2) (by omega)
  rw [← e] at h1
  exact h1 hb
theorem str_getD (s : ByteArray) (j : Nat) (h : j < s.size) : s.data.toList.getD j 0 = s[j] := by
  have h' : j < s.data.size := h
  rw [List.getD, List.getElem?_eq_getElem (by rw [Array.length_toList]; exact h')]
  rfl
theorem str_len (s : ByteArray) : s.data.toList.length = s.size := Array.length_toList
theorem nib_cases (c : Int) : nib c < 0 ∧ nib c = -1 ∨ 0 ≤ nib c ∧ nib c ≤ 15 := by unfold nib; repeat (first | split | omega)
theorem pairBad_true {a b : UInt8} (h : nib (a.toNat : Int) < 0 ∨ nib (b.toNat : Int) < 0) : pairBad a b = true := by
  unfold pairBad; rcases h with h | h <;> simp [h]
theorem pairBad_false {a b : UInt8} (h1 : 0 ≤ nib (a.toNat : Int)) (h2 : 0 ≤ nib (b.toNat : Int)) : pairBad a b = false := by
  unfold pairBad; simp; omega
theorem pairByte_toNat {a b : UInt8} (h1 : 0 ≤ nib (a.toNat : Int)) (h1' : nib (a.toNat : Int) ≤ 15) (h2 : 0 ≤ nib (b.toNat : Int)) (h2' : nib (b.toNat : Int) ≤ 15) :
    ((pairByte a b).toNat : Int) = 16 * nib (a.toNat : Int) + nib (b.toNat : Int) := by
  unfold pairByte
  rw [UInt8.toNat_ofNat']
  omega
theorem or_pair {a b : UInt8} (h1 : 0 ≤ nib (a.toNat : Int)) (h1' : nib (a.toNat : Int) ≤ 15) (h2 : 0 ≤ nib (b.toNat : Int)) (h2' : nib (b.toNat : Int) ≤ 15) :
    bits BinOp.or IntKind.i64 (nib (a.toNat : Int) * 16) (nib (b.toNat : Int)) = ((pairByte a b).toNat : Int) := by
  rw [pairByte_toNat h1 h1' h2 h2', bits_join .i64 8 (by decide) (fun n h0 h => by rw [IntKind.wrap_i64]; omega) 4 _ _ (by omega) (by omega) (by omega) (by omega) (by omega) (by omega)]
  omega
theorem owns_snoc {w : World} {B e : Nat} {v : Value} {l : List UInt8} {x : UInt8} (h : w.ownsRow B e 1 v (l.length + 1) (Lib.byteCells l ++ [Value.int .u8 (x.toNat : Int)])) :
    w.ownsRow B e 1 v (l ++ [x]).length (Lib.byteCells (l ++ [x])) := by
  rw [Lib.byteCells_append, List.length_append]
  exact h
/-- value.Check, value.Text, value.Parse, value.Repeat on lists of bytes: the result and the error. -/
def checkV (n : Nat) (most : Int) : Int := if most < 0 ∨ 512 < most then 2 else if most < (n : Int) then 12 else 0
def textV (l : List UInt8) : List UInt8 × Int := if 512 < l.length then ([], 12) else if l.length = 0 then ([45], 0) else (hexL l, 0)
def parseV (l : List UInt8) : List UInt8 × Int :=
  if l = [45] then ([], 0) else if l.length = 0 then ([], 8) else match unhex l with
    | none => ([], 8)
    | some t => if 512 < t.length then ([], 12) else (t, 0)
def repL (p : List UInt8) (n : Nat) : List UInt8 := (List.range n).map fun i => p.getD (i % p.length) 0
def repeatV (p : List UInt8) (n : Int) : List UInt8 × Int :=
  if n < 0 ∨ (p.length = 0 ∧ 0 < n) then ([], 2) else if 512 < n then ([], 12) else (repL p n.toNat, 0)
theorem repL_length (p : List UInt8) (n : Nat) : (repL p n).length = n := by simp [repL]
theorem repL_succ (p : List UInt8) (n : Nat) : repL p (n + 1) = repL p n ++ [p.getD (n % p.length) 0] := by simp [repL, List.range_succ]
theorem repL_zero (p : List UInt8) : repL p 0 = [] := rfl
theorem ret_str2 {a b : List UInt8} {x y : Int} (h : (a, x) = (b, y)) : Ending.returned (.tuple #[.string ⟨a.toArray⟩, .int .i64 x]) = .returned (.tuple #[.string ⟨b.toArray⟩, .int .i64 y]) := by
  simp only [Prod.mk.injEq] at h; rw [h.1, h.2]
theorem str_back (s : ByteArray) : (⟨s.data.toList.toArray⟩ : ByteArray) = s := by simp
theorem isEmpty_true {s : ByteArray} (h : s.size = 0) : s.toList.isEmpty = true := by
  rw [ByteArray.toList_eq, List.isEmpty_iff_length_eq_zero, str_len]; exact h
theorem isEmpty_false {s : ByteArray} (h : ¬ s.size = 0) : s.toList.isEmpty = false := by
  rw [ByteArray.toList_eq, ← Bool.not_eq_true, List.isEmpty_iff_length_eq_zero, str_len]; exact h
theorem is_true {s : ByteArray} {l : List UInt8} (h : s.data.toList = l) : (s.toList == l) = true := by rw [ByteArray.toList_eq, h]; exact beq_self_eq_true _
theorem is_false {s : ByteArray} {l : List UInt8} (h : ¬ s.data.toList = l) : (s.toList == l) = false := by rw [ByteArray.toList_eq]; exact beq_false_of_ne h
/-- The same contract with the world on the other side: so that the caller's name of it stays. -/
theorem keeps {P : Program} {f : FuncId} {args : Array Value} {w : World} {E : Ending} (h : Calls P f args w fun e w' => e = E ∧ w' = w) : Calls P f args w fun e w' => e = E ∧ w = w' :=
  h.mono fun _ _ ⟨h1, h2⟩ => ⟨h1, h2.symm⟩
theorem textV_large {s : ByteArray} (h : 512 < s.size) : textV s.data.toList = ([], 12) := by unfold textV; rw [str_len, if_pos h]
theorem textV_none {s : ByteArray} (h : s.size = 0) : textV s.data.toList = ([45], 0) := by unfold textV; rw [str_len, if_neg (by omega), if_pos h]
theorem textV_some {s : ByteArray} (h : ¬ 512 < s.size) (h0 : ¬ s.size = 0) : textV s.data.toList = (hexL s.data.toList, 0) := by unfold textV; rw [str_len, if_neg h, if_neg h0]
theorem checkV_arg {n : Nat} {m : Int} (h : m < 0 ∨ 512 < m) : checkV n m = 2 := by unfold checkV; rw [if_pos h]
theorem checkV_large {n : Nat} {m : Int} (h0 : 0 ≤ m) (h1 : m ≤ 512) (h : m < (n : Int)) : checkV n m = 12 := by unfold checkV; rw [if_neg (by omega), if_pos h]
theorem checkV_ok {n : Nat} {m : Int} (h0 : 0 ≤ m) (h1 : m ≤ 512) (h : (n : Int) ≤ m) : checkV n m = 0 := by unfold checkV; rw [if_neg (by omega), if_neg (by omega)]
theorem parseV_bad {l : List UInt8} (h1 : ¬ l = [45]) (h3 : ¬ l.length = 0) (hn : unhex l = none) : parseV l = ([], 8) := by unfold parseV; rw [if_neg h1, if_neg h3, hn]
theorem parseV_large {l t : List UInt8} (h1 : ¬ l = [45]) (h3 : ¬ l.length = 0) (hn : unhex l = some t) (h : 512 < t.length) : parseV l = ([], 12) := by
  unfold parseV; rw [if_neg h1, if_neg h3, hn]; simp only [if_pos h]
theorem parseV_ok {l t : List UInt8} (h1 : ¬ l = [45]) (h3 : ¬ l.length = 0) (hn : unhex l = some t) (h : ¬ 512 < t.length) : parseV l = (t, 0) := by
  unfold parseV; rw [if_neg h1, if_neg h3, hn]; simp only [if_neg h]
theorem parseV_dash {l : List UInt8} (h1 : l = [45]) : parseV l = ([], 0) := by unfold parseV; rw [if_pos h1]
theorem parseV_empty {l : List UInt8} (h3 : l.length = 0) : parseV l = ([], 8) := by
  unfold parseV; rw [if_neg (by intro h; rw [h] at h3; cases h3), if_pos h3]
/-- A byte of a string, at a known place. -/
theorem run_str_at {P : Program} (s : ByteArray) (t : TypeId) (ht : P.underlying t = some .string) (kd : IntKind) (i : Int) (j : Nat) (hi : i = (j : Int)) (hj : j < s.size) (c : UInt8) (hc : c = s.data.toList.getD j 0) (wx : World) :
    (Instr.index t (.string s) (.int kd i)).run P wx = .ok (.int .u8 (c.toNat : Int)) wx := by
  subst hi; subst hc
  rw [run_index_string wx t s kd j ht, dif_pos ⟨by omega, by omega⟩, str_getD s j hj]
  rfl
theorem byteCells_snoc1 (l : List UInt8) (x : UInt8) : Lib.byteCells l ++ [Value.int .u8 (x.toNat : Int)] = Lib.byteCells (l ++ [x]) := by rw [Lib.byteCells_append]; rfl
theorem repeatV_neg {p : List UInt8} {n : Int} (h : n < 0) : repeatV p n = ([], 2) := by unfold repeatV; rw [if_pos (Or.inl h)]
theorem repeatV_none {p : List UInt8} {n : Int} (h : p.length = 0) (h0 : 0 < n) : repeatV p n = ([], 2) := by unfold repeatV; rw [if_pos (Or.inr ⟨h, h0⟩)]
theorem repeatV_large {p : List UInt8} {n : Int} (h : ¬ p.length = 0) (h0 : 512 < n) : repeatV p n = ([], 12) := by unfold repeatV; rw [if_neg (by omega), if_pos h0]
theorem repeatV_ok {p : List UInt8} {n : Nat} (h : ¬ (p.length = 0 ∧ 0 < n)) (h0 : n ≤ 512) : repeatV p (n : Int) = (repL p n, 0) := by unfold repeatV; rw [if_neg (by omega), if_neg (by omega)]; rfl
theorem builder_below {T e B b : Nat} {bs : List Value} {w w' : World} (h : Lib.IsBuilder T e B b bs w) (hb : Below w.heap.size w w') : Lib.IsBuilder T e B b bs w' := by
  have key : ∀ p, Lib.BuilderAt T e B b p bs w → Lib.BuilderAt T e B b p bs w' := by
    intro p hp
    have hlt := hp.lt
    obtain ⟨h1, v, h2, h3, h4⟩ := hp
    refine ⟨h1, v, by rw [hb.block b hlt]; exact h2, h3.kept (row := none) ⟨hb.os, hb.tape, hb.output, hb.size, fun k hk _ => hb.block k hk⟩ ?_, h4⟩
    cases hv : v.ownBlock with
    | none => exact Or.inl rfl
    | some k => exact Or.inr (by simp)
  rcases h with h | h
  · exact Or.inl (key _ h)
  · exact Or.inr (key _ h)
/-- value.Short: the number of bytes, a colon, the digits of the first eight bytes, two dots if there are more. -/
def shortV (l : List UInt8) : List UInt8 := Lib.itoa l.length ++ [58] ++ hexL (l.take 8) ++ (if 8 < l.length then [46, 46] else [])
theorem extract_take (s : ByteArray) (k : Nat) : (s.extract 0 k).data.toList = s.data.toList.take k := by
  simp [ByteArray.data_extract]
theorem decDigits_le (u : Nat) : (Lib.decDigits u).length ≤ u + 1 := by
  induction u using Nat.strongRecOn with
  | ind u ih =>
    rw [Lib.decDigits]
    split
    · simp
    · have := ih (u / 10) (by omega)
      rw [List.length_append]
      simp only [List.length_singleton]
      omega
theorem itoa_nat (n : Nat) : Lib.itoa (n : Int) = Lib.decDigits n := by
  unfold Lib.itoa
  rw [if_neg (by omega)]
  rfl
theorem size_list (l : List UInt8) : (⟨l.toArray⟩ : ByteArray).size = l.length := by simp [ByteArray.size]
theorem strCells_list (l : List UInt8) : Lib.strCells ⟨l.toArray⟩ = Lib.byteCells l := rfl
theorem BytesAt.of_slice (w : World) (x : ByteArray) (l : List UInt8) (e L C : Nat) (fz : Nat × Nat) (hx : x.data.toList = l) (hL : L = l.length) (hC : L ≤ C) :
    BytesAt (w.alloc (.cells (bytesRow x C) e fz)).drew (.slice (some ⟨w.heap.size, 0, none⟩) L C) l := by
  subst hx
  have hz : L = x.size := by rw [hL, str_len]
  subst hz
  exact BytesAt.drew (BytesAt.of_string w x e C hC fz)
theorem min8_list (s : ByteArray) : (s.extract 0 (min 8 (s.size : Int)).toNat).data.toList = s.data.toList.take 8 := by
  rw [extract_take, List.take_eq_take_iff, str_len]
  omega
theorem min8_len (s : ByteArray) : min (min 8 (s.size : Int)).toNat s.size = (s.data.toList.take 8).length := by
  rw [List.length_take, str_len]
  omega
theorem short_cells_more {s : ByteArray} {I : List UInt8} (h8 : 8 < s.size) (hI : Lib.itoa (s.size : Int) = I) :
    ((([] ++ Lib.strCells ⟨I.toArray⟩) ++ [Value.int .u8 58]) ++ Lib.strCells ⟨(hexL (s.data.toList.take 8)).toArray⟩) ++ Lib.strCells ⟨#[46, 46]⟩ = Lib.byteCells (shortV s.data.toList) := by
  unfold shortV
  rw [str_len, hI, if_pos h8]
  simp [strCells_list, Lib.byteCells]
theorem short_cells_few {s : ByteArray} {I : List UInt8} (h8 : ¬ 8 < s.size) (hI : Lib.itoa (s.size : Int) = I) :
    (([] ++ Lib.strCells ⟨I.toArray⟩) ++ [Value.int .u8 58]) ++ Lib.strCells ⟨(hexL (s.data.toList.take 8)).toArray⟩ = Lib.byteCells (shortV s.data.toList) := by
  unfold shortV
  rw [str_len, hI, if_neg h8]
  simp [strCells_list, Lib.byteCells]
theorem str_append (a b : List UInt8) : (⟨a.toArray⟩ ++ ⟨b.toArray⟩ : ByteArray) = ⟨(a ++ b).toArray⟩ := by
  apply ByteArray.ext
  simp
end Go.Proofs.YtoceeegdbnigeaaDoor
