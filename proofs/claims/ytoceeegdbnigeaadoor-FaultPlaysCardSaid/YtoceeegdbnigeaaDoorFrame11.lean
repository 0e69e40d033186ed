/-
  What every statement of this seat shares: a world in which the listed tables and variables read as their initialisers lay them, and what the list gives to a walk.
  Conditions: none.
-/
import Derived.Test.YtoceeegdbnigeaaDoorCards
import Derived.Test.YtoceeegdbnigeaaDoorTie
import Derived.Test.YtoceeegdbnigeaaDoorTab
import Derived.Test.YtoceeegdbnigeaaDoorNum
import Derived.Stop.LaidErr
import Derived.WalkKit
import Derived.ProofKit
import Derived.OpenShut
import Derived.Deep.DeepHandedRow
import Derived.Deep.DeepWitnessRowRef
import Derived.Lib.LaidTab
import Derived.Shelf.Vars
namespace Go.Proofs.YtoceeegdbnigeaaDoor
open Go Go.RowKit Go.ChangeShapes Go.WideShapes Go.ChangeAt

theorem own : ownKnob Tryd.prog.godebug = none := by kernel_rfl
theorem gPowType : (Tryd.prog.globals[1]?).map (·.type) = some 119 := by kernel_rfl
theorem cellsPow : Tryd.prog.cellsOf 119 = 20 := by kernel_rfl
theorem cellsU64 : Tryd.prog.cellsOf 107 = 1 := by kernel_rfl
def laidList : List (String × DataW Unit) := [("math/bits.deBruijn32tab", Rows.laid_math_bits_deBruijn32tab), ("math/bits.deBruijn64tab", Rows.laid_math_bits_deBruijn64tab), ("internal/strconv.uint64pow10", Rows.laid_internal_strconv_uint64pow10), ("unicode/utf8.acceptRanges", Rows.laid_unicode_utf8_acceptRanges), ("strconv.ErrRange", Rows.laid_strconv_ErrRange), ("strconv.ErrSyntax", Rows.laid_strconv_ErrSyntax), ("unicode/utf8.first", Rows.laid_unicode_utf8_first)]
theorem tab_of_vars {W : World} {name : String} {k : IntKind} {zs : List Int} {rest : List (String × DataW Unit)} {ps : List MemPlace} {g : Nat} {t e : TypeId} {n : Nat}
    (hg : Tryd.prog.globalNamed name = some g) (hty : (Tryd.prog.globals[g]?).map (·.type) = some t) (ht : Tryd.prog.underlying t = some (.array n e)) (he : Tryd.prog.underlying e = some (.int k)) (hce : Tryd.prog.cellsOf e = 1) (hct : Tryd.prog.cellsOf t = n)
    (h : DataW.LaidVars Tryd.prog W ((name, Lib.tabData k zs) :: rest) ps) : Lib.TabIs Tryd.prog W name k zs := by
  obtain ⟨g', t', cs, fuel, p, q, hg', ht', hvar, hd, _, _⟩ := h
  obtain rfl := Option.some.inj (hg.symm.trans hg')
  obtain rfl := Option.some.inj (hty.symm.trans ht')
  unfold Lib.TabIs
  rw [hvar, ← Lib.cells_of_tab ht he hce hct hd]
/-- What the list gives: the table of powers of ten reads as its initialiser lays it. -/
theorem tab_of_laid {W : World} (h : laidMetH Tryd.prog laidList W) : Tab W := by
  obtain ⟨ps, ⟨_, _, _, _, _, _, _, _, _, _, ⟨_, _, _, _, _, _, _, _, _, _, hv, _⟩, _⟩, _⟩ := (show laidMet Tryd.prog laidList W from h)
  exact tab_of_vars gPow gPowType Tryd.underlying119 Tryd.underlying107 cellsU64 cellsPow hv
/-- The length up to which the library searches without its hash is some number. -/
theorem maxLen_of {W : World} (h : W.ShapedOpen Tryd.prog) : ∃ m, W.cell? ⟨0, 0, none⟩ = some (.int .i64 m) :=
  cell_of_shapedOpen_int (zero := #[.int .i64 0]) (t := 3) h (by decide +kernel) (by kernel_rfl) rfl (by kernel_rfl) (by kernel_rfl) Tryd.underlying3

theorem starE : "*" ++ "errors.errorString" = "*errors.errorString" := by decide
theorem rowErr (u : TypeId) (h : Tryd.prog.typeName? 3 u = some "*errors.errorString") : u = 144 :=
  typeName_ptr_named (nm := "errors.errorString") (by rw [starE]; kernel_rfl) (by kernel_rfl) (by decide) u (by rw [starE]; exact h)
theorem gRan : Tryd.prog.globalNamed "strconv.ErrRange" = some 5 := by kernel_rfl
theorem gSyn : Tryd.prog.globalNamed "strconv.ErrSyntax" = some 4 := by kernel_rfl
theorem gRanType : (Tryd.prog.globals[5]?).map (·.type) = some 87 := by kernel_rfl
theorem gSynType : (Tryd.prog.globals[4]?).map (·.type) = some 87 := by kernel_rfl
theorem cellsErrS : Tryd.prog.cellsOf 146 = 1 := by kernel_rfl
theorem cellsStr : Tryd.prog.cellsOf 9 = 1 := by kernel_rfl
/-- What the list gives: the library's two errors are some errors. -/
theorem errs_of_laid {W : World} (h : laidMetH Tryd.prog laidList W) : Errs W := by
  have h0 : laidMet Tryd.prog laidList W := h
  have h4 := h0.tail.tail.tail.tail
  obtain ⟨a1, s1, hv1, _⟩ := laid_sentinel h4 gRan gRanType Tryd.underlying87 rowErr Tryd.underlying144 Tryd.underlying146 rfl rfl Tryd.underlying9 cellsErrS cellsStr
  obtain ⟨a2, s2, hv2, _⟩ := laid_sentinel h4.tail gSyn gSynType Tryd.underlying87 rowErr Tryd.underlying144 Tryd.underlying146 rfl rfl Tryd.underlying9 cellsErrS cellsStr
  exact ⟨⟨_, _, by simpa using World.var?_cell gRan hv1 0⟩, ⟨_, _, by simpa using World.var?_cell gSyn hv2 0⟩⟩

def cellsOfTab (k : IntKind) (d : DataW Unit) : Array Value := match d with
  | .agg l => (l.map fun x => match x with | .lit (.int _ n) => Value.int k n | _ => Value.int k 0).toArray
  | _ => #[]
def cellsOfPairs (k : IntKind) (d : DataW Unit) : Array Value := match d with
  | .agg l => (l.flatMap fun x => match x with | .agg m => m.map (fun y => match y with | .lit (.int _ n) => Value.int k n | _ => Value.int k 0) | _ => []).toArray
  | _ => #[]
abbrev ranS : ByteArray := ⟨#[118, 97, 108, 117, 101, 32, 111, 117, 116, 32, 111, 102, 32, 114, 97, 110, 103, 101]⟩
abbrev synS : ByteArray := ⟨#[105, 110, 118, 97, 108, 105, 100, 32, 115, 121, 110, 116, 97, 120]⟩
/-- So many blocks has the settled world. -/
noncomputable def low : Nat := (World.holding Tryd.prog default ⟨#[], #[], []⟩).heap.size
/-- A world for the witness: the settled one, the tables holding what their initialisers lay, two blocks more for the two sentinels. -/
noncomputable def laidWorld (os : Os) : World :=
  let w0 := World.holding Tryd.prog os ⟨#[.cells #[.string ranS] 146, .cells #[.string synS] 146], #[], []⟩
  { w0 with heap := ((((((w0.heap.modify 1 fun
      | .cells _ t frozen => .cells (cellsOfTab .u64 Rows.laid_internal_strconv_uint64pow10) t frozen
      | o => o).modify 6 fun
      | .cells _ t frozen => .cells (cellsOfTab .u8 Rows.laid_math_bits_deBruijn32tab) t frozen
      | o => o).modify 7 fun
      | .cells _ t frozen => .cells (cellsOfTab .u8 Rows.laid_math_bits_deBruijn64tab) t frozen
      | o => o).modify 3 fun
      | .cells _ t frozen => .cells (cellsOfPairs .u8 Rows.laid_unicode_utf8_acceptRanges) t frozen
      | o => o).modify 2 fun
      | .cells _ t frozen => .cells (cellsOfTab .u8 Rows.laid_unicode_utf8_first) t frozen
      | o => o).modify 5 fun
      | .cells _ t frozen => .cells #[.iface 144 (.pointer (some ⟨low, 0, none⟩))] t frozen
      | o => o).modify 4 fun
      | .cells _ t frozen => .cells #[.iface 144 (.pointer (some ⟨low + 1, 0, none⟩))] t frozen
      | o => o }
theorem laid_met (os : Os) (args : Array Value) : laidMet Tryd.prog laidList ((laidWorld os).forCall (fun _ _ => 0) ⟨#[], args, []⟩).memory :=
  laidMet_of_run' 8 (by kernel_rfl) (by kernel_rfl)
end Go.Proofs.YtoceeegdbnigeaaDoor
