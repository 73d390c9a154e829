/-
  No cell of these rows narrows 'for every input' (looked for: loops, veiled, ifaces, maps, wideKeys, modest, calm, conditions, laid).
  DERIVED. THE GIVEN ROWS OF THIS SEAT. 3 by the template 'for every input the law returns true; each argument reads behind the call as it read before'; 0 by the template 'total and deterministic' (their statements: YtkeofaklkbjnkaaTotals.lean).
  GIVEN WITH THE SEED: the statements are not yours to turn. If you find one false, say at which input.
  Laid BY PROGRAM, IN A SANDBOX (cutbox-rows.mjs): the forced cells as the released guide's own fill.sh prints them over the translation 223bde21f2dc5631… (all of the seat's roots in one cut). By AI agents, Wed Nov 11 2026. No macro, syntax, notation, axiom, sorry.
-/
import Derived.Test.YtkeofaklkbjnkaaChecked
import GoSem.Claim
import GoSem.ClaimJoined
import GoSem.ClaimMapViews
import Derived.JoinedTies
import Derived.KernelRfl
namespace Go.Proofs.Ytkeofaklkbjnkaa
/- THE CELL 'sum', in the pinned program and in every row, IS THE sha256 OF THE DUMP (.gsa) THAT YtkeofaklkbjnkaaProg.lean LOADS. Nothing in Lean hashes anything: it is a label: what it is worth is what the hold of that sum in a sandbox is worth. -/
noncomputable def Try.pinned : Pinned := { name := "ytkeofaklkbjnkaa", sum := "223bde21f2dc5631c2115c72946e73ecf51b3c881e947352c55886ea13bfe232", checked := Try.checked }
namespace Rows
def none {H : Type} : Left H := { results := [], args := [] }

/-- 'calliperlaw17.CellsStrong': WHATEVER THE INPUT: true; the input reads as it did. -/
def cellsStrongSpec : ChangeSpec := { name := "cellsStrong", fn := fun _ => fun
  | [d1, d2, d3] => { results := [.lit (.bool true)], args := [d1, d2, d3] }
  | _ => none }
def cellsStrongRow : OpenClaim := { program := "ytkeofaklkbjnkaa", sum := "223bde21f2dc5631c2115c72946e73ecf51b3c881e947352c55886ea13bfe232", func := "calliper/calliperlaw17.CellsStrong", spec := "cellsStrong", apart := false }
def CellsStrongSaid : Prop := cellsStrongRow.holds Try.pinned (OpenSpec.ofChange cellsStrongSpec)

/-- ITS FALSE NEIGHBOUR: 'it returns false'. Refute it at one input. -/
def cellsStrongWrong : ChangeSpec := { name := "cellsStrong", fn := fun _ => fun
  | [d1, d2, d3] => { results := [.lit (.bool false)], args := [d1, d2, d3] }
  | _ => none }
def CellsStrongWrongFalsely : Prop := cellsStrongRow.holds Try.pinned (OpenSpec.ofChange cellsStrongWrong)

/-- 'calliperlaw17.CellsSound': WHATEVER THE INPUT: true; the input reads as it did. -/
def cellsSoundSpec : ChangeSpec := { name := "cellsSound", fn := fun _ => fun
  | [d1, d2, d3, d4, d5, d6, d7] => { results := [.lit (.bool true)], args := [d1, d2, d3, d4, d5, d6, d7] }
  | _ => none }
def cellsSoundRow : OpenClaim := { program := "ytkeofaklkbjnkaa", sum := "223bde21f2dc5631c2115c72946e73ecf51b3c881e947352c55886ea13bfe232", func := "calliper/calliperlaw17.CellsSound", spec := "cellsSound", unfollowed := true, recurses := true, apart := false }
def CellsSoundSaid : Prop := cellsSoundRow.holds Try.pinned (OpenSpec.ofChange cellsSoundSpec)

/-- ITS FALSE NEIGHBOUR: 'it returns false'. Refute it at one input. -/
def cellsSoundWrong : ChangeSpec := { name := "cellsSound", fn := fun _ => fun
  | [d1, d2, d3, d4, d5, d6, d7] => { results := [.lit (.bool false)], args := [d1, d2, d3, d4, d5, d6, d7] }
  | _ => none }
def CellsSoundWrongFalsely : Prop := cellsSoundRow.holds Try.pinned (OpenSpec.ofChange cellsSoundWrong)

/-- 'calliperlaw17.CellsAll': WHATEVER THE INPUT: true; the input reads as it did. -/
def cellsAllSpec : ChangeSpec := { name := "cellsAll", fn := fun _ => fun
  | [d1, d2, d3, d4, d5, d6] => { results := [.lit (.bool true)], args := [d1, d2, d3, d4, d5, d6] }
  | _ => none }
def cellsAllRow : OpenClaim := { program := "ytkeofaklkbjnkaa", sum := "223bde21f2dc5631c2115c72946e73ecf51b3c881e947352c55886ea13bfe232", func := "calliper/calliperlaw17.CellsAll", spec := "cellsAll", unfollowed := true, recurses := true, apart := false }
def CellsAllSaid : Prop := cellsAllRow.holds Try.pinned (OpenSpec.ofChange cellsAllSpec)

/-- ITS FALSE NEIGHBOUR: 'it returns false'. Refute it at one input. -/
def cellsAllWrong : ChangeSpec := { name := "cellsAll", fn := fun _ => fun
  | [d1, d2, d3, d4, d5, d6] => { results := [.lit (.bool false)], args := [d1, d2, d3, d4, d5, d6] }
  | _ => none }
def CellsAllWrongFalsely : Prop := cellsAllRow.holds Try.pinned (OpenSpec.ofChange cellsAllWrong)

/- THE SECOND FORM. 'bulk': how many values and letters a reading holds, each counted each time it is reached (what is shared counts as often as it is met; a slice's spare places count too). A statement '..UptoSaid' is the law's where the arguments, and the package variables that the reading takes, are together of bulk at most 1048576: NARROWER than '..Said'. Prove '..Said' where nothing that the law and all that it calls make is longer than what came in: it says more and counts as full. Else prove '..UptoSaid'. A law counts once. -/
mutual
def uptoBulk {H : Type} : DataW H → Nat
  | .lit (.string bytes) => bytes.length + 1
  | .lit _ => 1
  | .nil => 1
  | .ptr d => uptoBulk d + 1
  | .slice elems spare => uptoBulkAll elems + uptoBulkAll spare + 1
  | .agg parts => uptoBulkAll parts + 1
  | .iface _ d => uptoBulk d + 1
  | .map entries => uptoBulkEntries entries + 1
  | .held _ => 1
def uptoBulkAll {H : Type} : List (DataW H) → Nat
  | [] => 0
  | d :: r => uptoBulk d + uptoBulkAll r
def uptoBulkEntries {H : Type} : List (Lit × DataW H) → Nat
  | [] => 0
  | x :: r => uptoBulkEntry x + uptoBulkEntries r
def uptoBulkEntry {H : Type} : Lit × DataW H → Nat
  | (.string bytes, d) => bytes.length + uptoBulk d + 1
  | (_, d) => uptoBulk d + 1
 end
def uptoSmall : (H : Type) → List (DataW H) → Bool := fun _ ds => decide (uptoBulkAll ds ≤ 1048576)
def OpenSpec.upto (s : _root_.Go.ChangeSpec) : _root_.Go.OpenSpec := { _root_.Go.OpenSpec.ofChange s with cond := some uptoSmall }

/-- 'calliperlaw17.CellsStrong', WHERE WHAT IT READS IS OF BULK AT MOST 1048576: true; the input reads as it did. -/
def cellsStrongUptoRow : OpenClaim := { program := "ytkeofaklkbjnkaa", sum := "223bde21f2dc5631c2115c72946e73ecf51b3c881e947352c55886ea13bfe232", func := "calliper/calliperlaw17.CellsStrong", spec := "cellsStrong", apart := false, narrowed := true }
def CellsStrongUptoSaid : Prop := cellsStrongUptoRow.holds Try.pinned (OpenSpec.upto cellsStrongSpec)

/-- 'calliperlaw17.CellsSound', WHERE WHAT IT READS IS OF BULK AT MOST 1048576: true; the input reads as it did. -/
def cellsSoundUptoRow : OpenClaim := { program := "ytkeofaklkbjnkaa", sum := "223bde21f2dc5631c2115c72946e73ecf51b3c881e947352c55886ea13bfe232", func := "calliper/calliperlaw17.CellsSound", spec := "cellsSound", unfollowed := true, recurses := true, apart := false, narrowed := true }
def CellsSoundUptoSaid : Prop := cellsSoundUptoRow.holds Try.pinned (OpenSpec.upto cellsSoundSpec)

/-- 'calliperlaw17.CellsAll', WHERE WHAT IT READS IS OF BULK AT MOST 1048576: true; the input reads as it did. -/
def cellsAllUptoRow : OpenClaim := { program := "ytkeofaklkbjnkaa", sum := "223bde21f2dc5631c2115c72946e73ecf51b3c881e947352c55886ea13bfe232", func := "calliper/calliperlaw17.CellsAll", spec := "cellsAll", unfollowed := true, recurses := true, apart := false, narrowed := true }
def CellsAllUptoSaid : Prop := cellsAllUptoRow.holds Try.pinned (OpenSpec.upto cellsAllSpec)

end Rows
end Go.Proofs.Ytkeofaklkbjnkaa
