/-
  No cell of these rows narrows 'for every input' (looked for: loops, veiled, ifaces, maps, wideKeys, modest, calm, conditions, laid).
  DERIVED. THE GIVEN ROWS OF THIS SEAT. 2 by the template 'for every input the law returns true; each argument reads behind the call as it read before'; 0 by the template 'total and deterministic' (their statements: YtdmphpkiclfhhaaTotals.lean).
  GIVEN WITH THE SEED: the statements are not yours to turn. If you find one false, say at which input.
  Laid BY PROGRAM, IN A SANDBOX (cutbox-rows.mjs): the forced cells as the released guide's own fill.sh prints them over the translation ed976e0630cc3cda… (all of the seat's roots in one cut). By AI agents, Wed Nov 11 2026. No macro, syntax, notation, axiom, sorry.
-/
import Derived.Test.YtdmphpkiclfhhaaChecked
import GoSem.Claim
import GoSem.ClaimJoined
import GoSem.ClaimMapViews
import Derived.JoinedTies
import Derived.KernelRfl
namespace Go.Proofs.Ytdmphpkiclfhhaa
/- THE CELL 'sum', in the pinned program and in every row, IS THE sha256 OF THE DUMP (.gsa) THAT YtdmphpkiclfhhaaProg.lean LOADS. Nothing in Lean hashes anything: it is a label: what it is worth is what the hold of that sum in a sandbox is worth. -/
noncomputable def Try.pinned : Pinned := { name := "ytdmphpkiclfhhaa", sum := "ed976e0630cc3cdad273303d53a6f3ed246dc43f5074d3556d2bf58d464d8b40", checked := Try.checked }
namespace Rows
def none {H : Type} : Left H := { results := [], args := [] }

/-- 'calliperlaw18.StateWidens': WHATEVER THE INPUT: true; the input reads as it did. -/
def stateWidensSpec : ChangeSpec := { name := "stateWidens", fn := fun _ => fun
  | [d1, d2] => { results := [.lit (.bool true)], args := [d1, d2] }
  | _ => none }
def stateWidensRow : OpenClaim := { program := "ytdmphpkiclfhhaa", sum := "ed976e0630cc3cdad273303d53a6f3ed246dc43f5074d3556d2bf58d464d8b40", func := "calliper/calliperlaw18.StateWidens", spec := "stateWidens", unfollowed := true, recurses := true, apart := false }
def StateWidensSaid : Prop := stateWidensRow.holds Try.pinned (OpenSpec.ofChange stateWidensSpec)

/-- ITS FALSE NEIGHBOUR: 'it returns false'. Refute it at one input. -/
def stateWidensWrong : ChangeSpec := { name := "stateWidens", fn := fun _ => fun
  | [d1, d2] => { results := [.lit (.bool false)], args := [d1, d2] }
  | _ => none }
def StateWidensWrongFalsely : Prop := stateWidensRow.holds Try.pinned (OpenSpec.ofChange stateWidensWrong)

/-- 'calliperlaw18.StateBot': WHATEVER THE INPUT: true; the input reads as it did. -/
def stateBotSpec : ChangeSpec := { name := "stateBot", fn := fun _ => fun
  | [d1, d2, d3, d4, d5] => { results := [.lit (.bool true)], args := [d1, d2, d3, d4, d5] }
  | _ => none }
def stateBotRow : OpenClaim := { program := "ytdmphpkiclfhhaa", sum := "ed976e0630cc3cdad273303d53a6f3ed246dc43f5074d3556d2bf58d464d8b40", func := "calliper/calliperlaw18.StateBot", spec := "stateBot", unfollowed := true, recurses := true, apart := false }
def StateBotSaid : Prop := stateBotRow.holds Try.pinned (OpenSpec.ofChange stateBotSpec)

/-- ITS FALSE NEIGHBOUR: 'it returns false'. Refute it at one input. -/
def stateBotWrong : ChangeSpec := { name := "stateBot", fn := fun _ => fun
  | [d1, d2, d3, d4, d5] => { results := [.lit (.bool false)], args := [d1, d2, d3, d4, d5] }
  | _ => none }
def StateBotWrongFalsely : Prop := stateBotRow.holds Try.pinned (OpenSpec.ofChange stateBotWrong)

/- THE SECOND FORM. 'bulk': how many values and letters a reading holds, each counted each time it is reached (what is shared counts as often as it is met; a slice's spare places count too). A statement '..UptoSaid' is the law's where the arguments, and the package variables that the reading takes, are together of bulk at most 1048576: NARROWER than '..Said'. Prove '..Said' where nothing that the law and all that it calls make is longer than what came in: it says more and counts as full. Else prove '..UptoSaid'. A law counts once. -/
mutual
def uptoBulk {H : Type} : DataW H → Nat
  | .lit (.string bytes) => bytes.length + 1
  | .lit _ => 1
  | .nil => 1
  | .ptr d => uptoBulk d + 1
  | .slice elems spare => uptoBulkAll elems + uptoBulkAll spare + 1
  | .agg parts => uptoBulkAll parts + 1
  | .iface _ d => uptoBulk d + 1
  | .map entries => uptoBulkEntries entries + 1
  | .held _ => 1
def uptoBulkAll {H : Type} : List (DataW H) → Nat
  | [] => 0
  | d :: r => uptoBulk d + uptoBulkAll r
def uptoBulkEntries {H : Type} : List (Lit × DataW H) → Nat
  | [] => 0
  | x :: r => uptoBulkEntry x + uptoBulkEntries r
def uptoBulkEntry {H : Type} : Lit × DataW H → Nat
  | (.string bytes, d) => bytes.length + uptoBulk d + 1
  | (_, d) => uptoBulk d + 1
 end
def uptoSmall : (H : Type) → List (DataW H) → Bool := fun _ ds => decide (uptoBulkAll ds ≤ 1048576)
def OpenSpec.upto (s : _root_.Go.ChangeSpec) : _root_.Go.OpenSpec := { _root_.Go.OpenSpec.ofChange s with cond := some uptoSmall }

/-- 'calliperlaw18.StateWidens', WHERE WHAT IT READS IS OF BULK AT MOST 1048576: true; the input reads as it did. -/
def stateWidensUptoRow : OpenClaim := { program := "ytdmphpkiclfhhaa", sum := "ed976e0630cc3cdad273303d53a6f3ed246dc43f5074d3556d2bf58d464d8b40", func := "calliper/calliperlaw18.StateWidens", spec := "stateWidens", unfollowed := true, recurses := true, apart := false, narrowed := true }
def StateWidensUptoSaid : Prop := stateWidensUptoRow.holds Try.pinned (OpenSpec.upto stateWidensSpec)

/-- 'calliperlaw18.StateBot', WHERE WHAT IT READS IS OF BULK AT MOST 1048576: true; the input reads as it did. -/
def stateBotUptoRow : OpenClaim := { program := "ytdmphpkiclfhhaa", sum := "ed976e0630cc3cdad273303d53a6f3ed246dc43f5074d3556d2bf58d464d8b40", func := "calliper/calliperlaw18.StateBot", spec := "stateBot", unfollowed := true, recurses := true, apart := false, narrowed := true }
def StateBotUptoSaid : Prop := stateBotUptoRow.holds Try.pinned (OpenSpec.upto stateBotSpec)

end Rows
end Go.Proofs.Ytdmphpkiclfhhaa
