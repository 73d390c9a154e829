/-
  No cell of these rows narrows 'for every input' (looked for: loops, veiled, ifaces, maps, wideKeys, modest, calm, conditions, laid).
  DERIVED. THE GIVEN ROWS OF THIS SEAT. 4 by the template 'for every input the law returns true; each argument reads behind the call as it read before'; 0 by the template 'total and deterministic' (their statements: YtacdeollnhkckaaTotals.lean).
  GIVEN WITH THE SEED: the statements are not yours to turn. If you find one false, say at which input.
  Laid BY PROGRAM, IN A SANDBOX (cutbox-rows.mjs): the forced cells as the released guide's own fill.sh prints them over the translation 913dd0af52e0877d… (all of the seat's roots in one cut). By AI agents, Wed Nov 11 2026. No macro, syntax, notation, axiom, sorry.
-/
import Derived.Test.YtacdeollnhkckaaChecked
import GoSem.Claim
import GoSem.ClaimJoined
import GoSem.ClaimMapViews
import Derived.JoinedTies
import Derived.KernelRfl
namespace Go.Proofs.Ytacdeollnhkckaa
/- THE CELL 'sum', in the pinned program and in every row, IS THE sha256 OF THE DUMP (.gsa) THAT YtacdeollnhkckaaProg.lean LOADS. Nothing in Lean hashes anything: it is a label: what it is worth is what the hold of that sum in a sandbox is worth. -/
noncomputable def Try.pinned : Pinned := { name := "ytacdeollnhkckaa", sum := "913dd0af52e0877dfde4c1e09e49cc8a4a1ad24d49f8a423b8466317463eb0e3", checked := Try.checked }
namespace Rows
def none {H : Type} : Left H := { results := [], args := [] }

/-- 'calliperlaw12.ShapeDominates': WHATEVER THE INPUT: true; the input reads as it did. -/
def shapeDominatesSpec : ChangeSpec := { name := "shapeDominates", fn := fun _ => fun
  | [d1, d2] => { results := [.lit (.bool true)], args := [d1, d2] }
  | _ => none }
def shapeDominatesRow : OpenClaim := { program := "ytacdeollnhkckaa", sum := "913dd0af52e0877dfde4c1e09e49cc8a4a1ad24d49f8a423b8466317463eb0e3", func := "calliper/calliperlaw12.ShapeDominates", spec := "shapeDominates", unfollowed := true, recurses := true, apart := false }
def ShapeDominatesSaid : Prop := shapeDominatesRow.holds Try.pinned (OpenSpec.ofChange shapeDominatesSpec)

/-- ITS FALSE NEIGHBOUR: 'it returns false'. Refute it at one input. -/
def shapeDominatesWrong : ChangeSpec := { name := "shapeDominates", fn := fun _ => fun
  | [d1, d2] => { results := [.lit (.bool false)], args := [d1, d2] }
  | _ => none }
def ShapeDominatesWrongFalsely : Prop := shapeDominatesRow.holds Try.pinned (OpenSpec.ofChange shapeDominatesWrong)

/-- 'calliperlaw12.ShapeRing': WHATEVER THE INPUT: true; the input reads as it did. -/
def shapeRingSpec : ChangeSpec := { name := "shapeRing", fn := fun _ => fun
  | [d1, d2, d3] => { results := [.lit (.bool true)], args := [d1, d2, d3] }
  | _ => none }
def shapeRingRow : OpenClaim := { program := "ytacdeollnhkckaa", sum := "913dd0af52e0877dfde4c1e09e49cc8a4a1ad24d49f8a423b8466317463eb0e3", func := "calliper/calliperlaw12.ShapeRing", spec := "shapeRing", unfollowed := true, recurses := true, apart := false }
def ShapeRingSaid : Prop := shapeRingRow.holds Try.pinned (OpenSpec.ofChange shapeRingSpec)

/-- ITS FALSE NEIGHBOUR: 'it returns false'. Refute it at one input. -/
def shapeRingWrong : ChangeSpec := { name := "shapeRing", fn := fun _ => fun
  | [d1, d2, d3] => { results := [.lit (.bool false)], args := [d1, d2, d3] }
  | _ => none }
def ShapeRingWrongFalsely : Prop := shapeRingRow.holds Try.pinned (OpenSpec.ofChange shapeRingWrong)

/-- 'calliperlaw12.ShapeAll': WHATEVER THE INPUT: true; the input reads as it did. -/
def shapeAllSpec : ChangeSpec := { name := "shapeAll", fn := fun _ => fun
  | [d1, d2, d3, d4, d5] => { results := [.lit (.bool true)], args := [d1, d2, d3, d4, d5] }
  | _ => none }
def shapeAllRow : OpenClaim := { program := "ytacdeollnhkckaa", sum := "913dd0af52e0877dfde4c1e09e49cc8a4a1ad24d49f8a423b8466317463eb0e3", func := "calliper/calliperlaw12.ShapeAll", spec := "shapeAll", unfollowed := true, recurses := true, apart := false }
def ShapeAllSaid : Prop := shapeAllRow.holds Try.pinned (OpenSpec.ofChange shapeAllSpec)

/-- ITS FALSE NEIGHBOUR: 'it returns false'. Refute it at one input. -/
def shapeAllWrong : ChangeSpec := { name := "shapeAll", fn := fun _ => fun
  | [d1, d2, d3, d4, d5] => { results := [.lit (.bool false)], args := [d1, d2, d3, d4, d5] }
  | _ => none }
def ShapeAllWrongFalsely : Prop := shapeAllRow.holds Try.pinned (OpenSpec.ofChange shapeAllWrong)

/-- 'calliperlaw12.ShapeOrders': WHATEVER THE INPUT: true; the input reads as it did. -/
def shapeOrdersSpec : ChangeSpec := { name := "shapeOrders", fn := fun _ => fun
  | [d1, d2] => { results := [.lit (.bool true)], args := [d1, d2] }
  | _ => none }
def shapeOrdersRow : OpenClaim := { program := "ytacdeollnhkckaa", sum := "913dd0af52e0877dfde4c1e09e49cc8a4a1ad24d49f8a423b8466317463eb0e3", func := "calliper/calliperlaw12.ShapeOrders", spec := "shapeOrders", unfollowed := true, recurses := true, apart := false }
def ShapeOrdersSaid : Prop := shapeOrdersRow.holds Try.pinned (OpenSpec.ofChange shapeOrdersSpec)

/-- ITS FALSE NEIGHBOUR: 'it returns false'. Refute it at one input. -/
def shapeOrdersWrong : ChangeSpec := { name := "shapeOrders", fn := fun _ => fun
  | [d1, d2] => { results := [.lit (.bool false)], args := [d1, d2] }
  | _ => none }
def ShapeOrdersWrongFalsely : Prop := shapeOrdersRow.holds Try.pinned (OpenSpec.ofChange shapeOrdersWrong)

/- THE SECOND FORM. 'bulk': how many values and letters a reading holds, each counted each time it is reached (what is shared counts as often as it is met; a slice's spare places count too). A statement '..UptoSaid' is the law's where the arguments, and the package variables that the reading takes, are together of bulk at most 1048576: NARROWER than '..Said'. Prove '..Said' where nothing that the law and all that it calls make is longer than what came in: it says more and counts as full. Else prove '..UptoSaid'. A law counts once. -/
mutual
def uptoBulk {H : Type} : DataW H → Nat
  | .lit (.string bytes) => bytes.length + 1
  | .lit _ => 1
  | .nil => 1
  | .ptr d => uptoBulk d + 1
  | .slice elems spare => uptoBulkAll elems + uptoBulkAll spare + 1
  | .agg parts => uptoBulkAll parts + 1
  | .iface _ d => uptoBulk d + 1
  | .map entries => uptoBulkEntries entries + 1
  | .held _ => 1
def uptoBulkAll {H : Type} : List (DataW H) → Nat
  | [] => 0
  | d :: r => uptoBulk d + uptoBulkAll r
def uptoBulkEntries {H : Type} : List (Lit × DataW H) → Nat
  | [] => 0
  | x :: r => uptoBulkEntry x + uptoBulkEntries r
def uptoBulkEntry {H : Type} : Lit × DataW H → Nat
  | (.string bytes, d) => bytes.length + uptoBulk d + 1
  | (_, d) => uptoBulk d + 1
 end
def uptoSmall : (H : Type) → List (DataW H) → Bool := fun _ ds => decide (uptoBulkAll ds ≤ 1048576)
def OpenSpec.upto (s : _root_.Go.ChangeSpec) : _root_.Go.OpenSpec := { _root_.Go.OpenSpec.ofChange s with cond := some uptoSmall }

/-- 'calliperlaw12.ShapeDominates', WHERE WHAT IT READS IS OF BULK AT MOST 1048576: true; the input reads as it did. -/
def shapeDominatesUptoRow : OpenClaim := { program := "ytacdeollnhkckaa", sum := "913dd0af52e0877dfde4c1e09e49cc8a4a1ad24d49f8a423b8466317463eb0e3", func := "calliper/calliperlaw12.ShapeDominates", spec := "shapeDominates", unfollowed := true, recurses := true, apart := false, narrowed := true }
def ShapeDominatesUptoSaid : Prop := shapeDominatesUptoRow.holds Try.pinned (OpenSpec.upto shapeDominatesSpec)

/-- 'calliperlaw12.ShapeRing', WHERE WHAT IT READS IS OF BULK AT MOST 1048576: true; the input reads as it did. -/
def shapeRingUptoRow : OpenClaim := { program := "ytacdeollnhkckaa", sum := "913dd0af52e0877dfde4c1e09e49cc8a4a1ad24d49f8a423b8466317463eb0e3", func := "calliper/calliperlaw12.ShapeRing", spec := "shapeRing", unfollowed := true, recurses := true, apart := false, narrowed := true }
def ShapeRingUptoSaid : Prop := shapeRingUptoRow.holds Try.pinned (OpenSpec.upto shapeRingSpec)

/-- 'calliperlaw12.ShapeAll', WHERE WHAT IT READS IS OF BULK AT MOST 1048576: true; the input reads as it did. -/
def shapeAllUptoRow : OpenClaim := { program := "ytacdeollnhkckaa", sum := "913dd0af52e0877dfde4c1e09e49cc8a4a1ad24d49f8a423b8466317463eb0e3", func := "calliper/calliperlaw12.ShapeAll", spec := "shapeAll", unfollowed := true, recurses := true, apart := false, narrowed := true }
def ShapeAllUptoSaid : Prop := shapeAllUptoRow.holds Try.pinned (OpenSpec.upto shapeAllSpec)

/-- 'calliperlaw12.ShapeOrders', WHERE WHAT IT READS IS OF BULK AT MOST 1048576: true; the input reads as it did. -/
def shapeOrdersUptoRow : OpenClaim := { program := "ytacdeollnhkckaa", sum := "913dd0af52e0877dfde4c1e09e49cc8a4a1ad24d49f8a423b8466317463eb0e3", func := "calliper/calliperlaw12.ShapeOrders", spec := "shapeOrders", unfollowed := true, recurses := true, apart := false, narrowed := true }
def ShapeOrdersUptoSaid : Prop := shapeOrdersUptoRow.holds Try.pinned (OpenSpec.upto shapeOrdersSpec)

end Rows
end Go.Proofs.Ytacdeollnhkckaa
