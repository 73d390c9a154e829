/-
  No cell of these rows narrows 'for every input' (looked for: loops, veiled, ifaces, maps, wideKeys, modest, calm, conditions, laid).
  DERIVED. THE GIVEN ROWS OF THIS SEAT. 5 by the template 'for every input the law returns true; each argument reads behind the call as it read before'; 0 by the template 'total and deterministic' (their statements: YthfglfhenpigjaaTotals.lean).
  GIVEN WITH THE SEED: the statements are not yours to turn. If you find one false, say at which input.
  Laid BY PROGRAM, IN A SANDBOX (cutbox-rows.mjs): the forced cells as the released guide's own fill.sh prints them over the translation 05dc08f068e916f8… (all of the seat's roots in one cut). By AI agents, Wed Nov 11 2026. No macro, syntax, notation, axiom, sorry.
-/
import Derived.Test.YthfglfhenpigjaaChecked
import GoSem.Claim
import GoSem.ClaimJoined
import GoSem.ClaimMapViews
import Derived.JoinedTies
import Derived.KernelRfl
namespace Go.Proofs.Ythfglfhenpigjaa
/- THE CELL 'sum', in the pinned program and in every row, IS THE sha256 OF THE DUMP (.gsa) THAT YthfglfhenpigjaaProg.lean LOADS. Nothing in Lean hashes anything: it is a label: what it is worth is what the hold of that sum in a sandbox is worth. -/
noncomputable def Try.pinned : Pinned := { name := "ythfglfhenpigjaa", sum := "05dc08f068e916f89c79767ae69606224fd0551a7a16fb6672d791552df15c49", checked := Try.checked }
namespace Rows
def none {H : Type} : Left H := { results := [], args := [] }

/-- 'calliperlaw14.ItvWraps': WHATEVER THE INPUT: true; the input reads as it did. -/
def itvWrapsSpec : ChangeSpec := { name := "itvWraps", fn := fun _ => fun
  | [d1, d2, d3, d4] => { results := [.lit (.bool true)], args := [d1, d2, d3, d4] }
  | _ => none }
def itvWrapsRow : OpenClaim := { program := "ythfglfhenpigjaa", sum := "05dc08f068e916f89c79767ae69606224fd0551a7a16fb6672d791552df15c49", func := "calliper/calliperlaw14.ItvWraps", spec := "itvWraps", apart := false }
def ItvWrapsSaid : Prop := itvWrapsRow.holds Try.pinned (OpenSpec.ofChange itvWrapsSpec)

/-- ITS FALSE NEIGHBOUR: 'it returns false'. Refute it at one input. -/
def itvWrapsWrong : ChangeSpec := { name := "itvWraps", fn := fun _ => fun
  | [d1, d2, d3, d4] => { results := [.lit (.bool false)], args := [d1, d2, d3, d4] }
  | _ => none }
def ItvWrapsWrongFalsely : Prop := itvWrapsRow.holds Try.pinned (OpenSpec.ofChange itvWrapsWrong)

/-- 'calliperlaw14.ItvNarrow': WHATEVER THE INPUT: true; the input reads as it did. -/
def itvNarrowSpec : ChangeSpec := { name := "itvNarrow", fn := fun _ => fun
  | [d1, d2, d3, d4, d5, d6] => { results := [.lit (.bool true)], args := [d1, d2, d3, d4, d5, d6] }
  | _ => none }
def itvNarrowRow : OpenClaim := { program := "ythfglfhenpigjaa", sum := "05dc08f068e916f89c79767ae69606224fd0551a7a16fb6672d791552df15c49", func := "calliper/calliperlaw14.ItvNarrow", spec := "itvNarrow", apart := false }
def ItvNarrowSaid : Prop := itvNarrowRow.holds Try.pinned (OpenSpec.ofChange itvNarrowSpec)

/-- ITS FALSE NEIGHBOUR: 'it returns false'. Refute it at one input. -/
def itvNarrowWrong : ChangeSpec := { name := "itvNarrow", fn := fun _ => fun
  | [d1, d2, d3, d4, d5, d6] => { results := [.lit (.bool false)], args := [d1, d2, d3, d4, d5, d6] }
  | _ => none }
def ItvNarrowWrongFalsely : Prop := itvNarrowRow.holds Try.pinned (OpenSpec.ofChange itvNarrowWrong)

/-- 'calliperlaw14.ItvHas': WHATEVER THE INPUT: true; the input reads as it did. -/
def itvHasSpec : ChangeSpec := { name := "itvHas", fn := fun _ => fun
  | [d1, d2, d3, d4, d5] => { results := [.lit (.bool true)], args := [d1, d2, d3, d4, d5] }
  | _ => none }
def itvHasRow : OpenClaim := { program := "ythfglfhenpigjaa", sum := "05dc08f068e916f89c79767ae69606224fd0551a7a16fb6672d791552df15c49", func := "calliper/calliperlaw14.ItvHas", spec := "itvHas", apart := false }
def ItvHasSaid : Prop := itvHasRow.holds Try.pinned (OpenSpec.ofChange itvHasSpec)

/-- ITS FALSE NEIGHBOUR: 'it returns false'. Refute it at one input. -/
def itvHasWrong : ChangeSpec := { name := "itvHas", fn := fun _ => fun
  | [d1, d2, d3, d4, d5] => { results := [.lit (.bool false)], args := [d1, d2, d3, d4, d5] }
  | _ => none }
def ItvHasWrongFalsely : Prop := itvHasRow.holds Try.pinned (OpenSpec.ofChange itvHasWrong)

/-- 'calliperlaw14.ItvWidens': WHATEVER THE INPUT: true; the input reads as it did. -/
def itvWidensSpec : ChangeSpec := { name := "itvWidens", fn := fun _ => fun
  | [d1, d2] => { results := [.lit (.bool true)], args := [d1, d2] }
  | _ => none }
def itvWidensRow : OpenClaim := { program := "ythfglfhenpigjaa", sum := "05dc08f068e916f89c79767ae69606224fd0551a7a16fb6672d791552df15c49", func := "calliper/calliperlaw14.ItvWidens", spec := "itvWidens", apart := false }
def ItvWidensSaid : Prop := itvWidensRow.holds Try.pinned (OpenSpec.ofChange itvWidensSpec)

/-- ITS FALSE NEIGHBOUR: 'it returns false'. Refute it at one input. -/
def itvWidensWrong : ChangeSpec := { name := "itvWidens", fn := fun _ => fun
  | [d1, d2] => { results := [.lit (.bool false)], args := [d1, d2] }
  | _ => none }
def ItvWidensWrongFalsely : Prop := itvWidensRow.holds Try.pinned (OpenSpec.ofChange itvWidensWrong)

/-- 'calliperlaw14.ItvAll': WHATEVER THE INPUT: true; the input reads as it did. -/
def itvAllSpec : ChangeSpec := { name := "itvAll", fn := fun _ => fun
  | [d1, d2, d3, d4] => { results := [.lit (.bool true)], args := [d1, d2, d3, d4] }
  | _ => none }
def itvAllRow : OpenClaim := { program := "ythfglfhenpigjaa", sum := "05dc08f068e916f89c79767ae69606224fd0551a7a16fb6672d791552df15c49", func := "calliper/calliperlaw14.ItvAll", spec := "itvAll", apart := false }
def ItvAllSaid : Prop := itvAllRow.holds Try.pinned (OpenSpec.ofChange itvAllSpec)

/-- ITS FALSE NEIGHBOUR: 'it returns false'. Refute it at one input. -/
def itvAllWrong : ChangeSpec := { name := "itvAll", fn := fun _ => fun
  | [d1, d2, d3, d4] => { results := [.lit (.bool false)], args := [d1, d2, d3, d4] }
  | _ => none }
def ItvAllWrongFalsely : Prop := itvAllRow.holds Try.pinned (OpenSpec.ofChange itvAllWrong)

/- THE SECOND FORM. 'bulk': how many values and letters a reading holds, each counted each time it is reached (what is shared counts as often as it is met; a slice's spare places count too). A statement '..UptoSaid' is the law's where the arguments, and the package variables that the reading takes, are together of bulk at most 1048576: NARROWER than '..Said'. Prove '..Said' where nothing that the law and all that it calls make is longer than what came in: it says more and counts as full. Else prove '..UptoSaid'. A law counts once. -/
mutual
def uptoBulk {H : Type} : DataW H → Nat
  | .lit (.string bytes) => bytes.length + 1
  | .lit _ => 1
  | .nil => 1
  | .ptr d => uptoBulk d + 1
  | .slice elems spare => uptoBulkAll elems + uptoBulkAll spare + 1
  | .agg parts => uptoBulkAll parts + 1
  | .iface _ d => uptoBulk d + 1
  | .map entries => uptoBulkEntries entries + 1
  | .held _ => 1
def uptoBulkAll {H : Type} : List (DataW H) → Nat
  | [] => 0
  | d :: r => uptoBulk d + uptoBulkAll r
def uptoBulkEntries {H : Type} : List (Lit × DataW H) → Nat
  | [] => 0
  | x :: r => uptoBulkEntry x + uptoBulkEntries r
def uptoBulkEntry {H : Type} : Lit × DataW H → Nat
  | (.string bytes, d) => bytes.length + uptoBulk d + 1
  | (_, d) => uptoBulk d + 1
 end
def uptoSmall : (H : Type) → List (DataW H) → Bool := fun _ ds => decide (uptoBulkAll ds ≤ 1048576)
def OpenSpec.upto (s : _root_.Go.ChangeSpec) : _root_.Go.OpenSpec := { _root_.Go.OpenSpec.ofChange s with cond := some uptoSmall }

/-- 'calliperlaw14.ItvWraps', WHERE WHAT IT READS IS OF BULK AT MOST 1048576: true; the input reads as it did. -/
def itvWrapsUptoRow : OpenClaim := { program := "ythfglfhenpigjaa", sum := "05dc08f068e916f89c79767ae69606224fd0551a7a16fb6672d791552df15c49", func := "calliper/calliperlaw14.ItvWraps", spec := "itvWraps", apart := false, narrowed := true }
def ItvWrapsUptoSaid : Prop := itvWrapsUptoRow.holds Try.pinned (OpenSpec.upto itvWrapsSpec)

/-- 'calliperlaw14.ItvNarrow', WHERE WHAT IT READS IS OF BULK AT MOST 1048576: true; the input reads as it did. -/
def itvNarrowUptoRow : OpenClaim := { program := "ythfglfhenpigjaa", sum := "05dc08f068e916f89c79767ae69606224fd0551a7a16fb6672d791552df15c49", func := "calliper/calliperlaw14.ItvNarrow", spec := "itvNarrow", apart := false, narrowed := true }
def ItvNarrowUptoSaid : Prop := itvNarrowUptoRow.holds Try.pinned (OpenSpec.upto itvNarrowSpec)

/-- 'calliperlaw14.ItvHas', WHERE WHAT IT READS IS OF BULK AT MOST 1048576: true; the input reads as it did. -/
def itvHasUptoRow : OpenClaim := { program := "ythfglfhenpigjaa", sum := "05dc08f068e916f89c79767ae69606224fd0551a7a16fb6672d791552df15c49", func := "calliper/calliperlaw14.ItvHas", spec := "itvHas", apart := false, narrowed := true }
def ItvHasUptoSaid : Prop := itvHasUptoRow.holds Try.pinned (OpenSpec.upto itvHasSpec)

/-- 'calliperlaw14.ItvWidens', WHERE WHAT IT READS IS OF BULK AT MOST 1048576: true; the input reads as it did. -/
def itvWidensUptoRow : OpenClaim := { program := "ythfglfhenpigjaa", sum := "05dc08f068e916f89c79767ae69606224fd0551a7a16fb6672d791552df15c49", func := "calliper/calliperlaw14.ItvWidens", spec := "itvWidens", apart := false, narrowed := true }
def ItvWidensUptoSaid : Prop := itvWidensUptoRow.holds Try.pinned (OpenSpec.upto itvWidensSpec)

/-- 'calliperlaw14.ItvAll', WHERE WHAT IT READS IS OF BULK AT MOST 1048576: true; the input reads as it did. -/
def itvAllUptoRow : OpenClaim := { program := "ythfglfhenpigjaa", sum := "05dc08f068e916f89c79767ae69606224fd0551a7a16fb6672d791552df15c49", func := "calliper/calliperlaw14.ItvAll", spec := "itvAll", apart := false, narrowed := true }
def ItvAllUptoSaid : Prop := itvAllUptoRow.holds Try.pinned (OpenSpec.upto itvAllSpec)

end Rows
end Go.Proofs.Ythfglfhenpigjaa
