/-
  Slices of strings of the call's own, and strings.Join over them.
  Conditions: none.
-/
import Derived.Test.YtoceeegdbnigeaaDoorPlain
import Derived.Test.YtoceeegdbnigeaaDoorShelf
import Derived.Test.YtoceeegdbnigeaaDoorMem
import Derived.Lib.Join
import Derived.Deep.RegionLaw
import Derived.Deep.AppendLies
set_option linter.unusedVariables false
namespace Go.Proofs.YtoceeegdbnigeaaDoor
open Go Go.RowKit

theorem infoStr : (Tryd.prog.info? 9).map (fun i => (i.zero, i.size, i.bytes)) = some (some (.string ⟨#[]⟩), 1, 16) := by kernel_rfl
def strCellsL (l : List ByteArray) : List Value := l.map Value.string
theorem strCellsL_snoc (l : List ByteArray) (x : ByteArray) : strCellsL l ++ [Value.string x] = strCellsL (l ++ [x]) := by simp [strCellsL]
theorem join_is (xs : List ByteArray) (n : Nat) (hn : xs.length = n) (r sep : ByteArray) (hr : Lib.join (xs.map (·.data.toList)) sep.data.toList = r.data.toList) (hlen : r.size ≤ 140737488355328) (hn2 : n ≤ 100000) (B g c : Nat) (w : World) (h : w.ownsRow B 9 1 (.slice (some ⟨g, 0, none⟩) n c) n (strCellsL xs)) (h0 : 0 < n) :
    Calls Tryd.prog 40 #[.slice (some ⟨g, 0, none⟩) n c, .string sep] w fun e w' => e = .returned (.string r) ∧ Below w.heap.size w w' := by
  subst hn
  have hc : xs.length ≤ c := by
    rcases h.2 with ⟨he, _⟩ | ⟨g', cap, cur, he, _, _, hcap, _⟩
    · cases he
    · cases he; exact hcap
  have h2 := Tryd.strings_Join g 0 c xs sep w (fun j x hx => by
    have hj : j < xs.length := (List.getElem?_eq_some_iff.1 hx).1
    rw [Nat.zero_add, h.cellAt j (by omega)]
    unfold strCellsL
    rw [List.getElem?_map, hx]
    rfl) (h.lt g rfl).2 (by omega) hc (by rw [hr, str_len]; exact hlen)
  rw [hr, str_back] at h2
  exact h2
theorem lens_le (l : List (List UInt8)) (k : Nat) (h : ∀ x ∈ l, x.length ≤ k) : Lib.lens l ≤ k * l.length := by
  induction l with
  | nil => simp [Lib.lens]
  | cons x r ih =>
    have h1 := h x (by simp)
    have h2 := ih fun y hy => h y (by simp [hy])
    simp only [Lib.lens, List.length_cons, Nat.mul_add] at h2 ⊢
    simp at h2 ⊢
    omega
theorem join_le (l : List (List UInt8)) (d : UInt8) (k n : Nat) (h : ∀ x ∈ l, x.length ≤ k) (hn : l.length ≤ n) : (Lib.join l [d]).length ≤ (k + 1) * n := by
  have h2 := lens_le l k h
  cases l with
  | nil => simp [Lib.join]
  | cons y r =>
    rw [Lib.join_length]
    simp at hn h2 ⊢
    have h3 : (k + 1) * (r.length + 1) ≤ (k + 1) * n := Nat.mul_le_mul_left _ hn
    have h4 : (k + 1) * (r.length + 1) = k * (r.length + 1) + (r.length + 1) := by rw [Nat.add_mul, Nat.one_mul]
    omega
end Go.Proofs.YtoceeegdbnigeaaDoor
