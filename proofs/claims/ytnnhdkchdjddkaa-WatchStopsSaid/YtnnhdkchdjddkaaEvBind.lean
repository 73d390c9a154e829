/- The reference's last (the last bind of a name): walk. -/
import Derived.Test.YtnnhdkchdjddkaaLexMem
import Derived.OwnWalk
import Derived.Deep.CutBlock
namespace Go.Proofs.Ytnnhdkchdjddkaa.C
open Go.RowKit
set_option linter.unusedSimpArgs false
set_option linter.unusedVariables false
/-- A bind. -/
structure Bd where
  nm : ByteArray
  t : Int
  size : Int
  id : Int
def bd0 : Bd := ⟨ByteArray.empty, 0, 0, 0⟩
def bdV (b : Bd) : Value := .agg #[.string b.nm, .int .i64 b.t, .int .i64 b.size, .int .i64 b.id]
/-- A row of binds that is read. -/
def BL (w : World) (g : Nat) (bs : List Bd) : Prop := g < w.heap.size ∧ ∀ j b, bs[j]? = some b → w.cell? ⟨g, j * 4, none⟩ = some (.string b.nm) ∧ w.cell? ⟨g, j * 4 + 1, none⟩ = some (.int .i64 b.t) ∧ w.cell? ⟨g, j * 4 + 2, none⟩ = some (.int .i64 b.size) ∧ w.cell? ⟨g, j * 4 + 3, none⟩ = some (.int .i64 b.id)
theorem BL.below {w w' : World} {g : Nat} {bs : List Bd} (h : BL w g bs) (hb : Below w.heap.size w w') : BL w' g bs := by
  refine ⟨by have := hb.size; have := h.1; omega, fun j b hj => ?_⟩
  obtain ⟨c0, c1, c2, c3⟩ := h.2 j b hj
  exact ⟨(hb.cell (p := ⟨g, j * 4, none⟩) h.1).trans c0, (hb.cell (p := ⟨g, j * 4 + 1, none⟩) h.1).trans c1, (hb.cell (p := ⟨g, j * 4 + 2, none⟩) h.1).trans c2, (hb.cell (p := ⟨g, j * 4 + 3, none⟩) h.1).trans c3⟩
/-- The last one of a name among the first k. -/
def lastB (bs : List Bd) (nm : ByteArray) : Nat → Option Bd
  | 0 => none
  | k + 1 => if ((bs.getD k bd0).nm.toList == nm.toList) = true then some (bs.getD k bd0) else lastB bs nm k
def lastV (o : Option Bd) : Value := .tuple #[bdV (o.getD bd0), .bool o.isSome]
end Go.Proofs.Ytnnhdkchdjddkaa.C
