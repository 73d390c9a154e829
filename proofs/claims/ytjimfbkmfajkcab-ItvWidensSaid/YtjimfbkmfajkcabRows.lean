/-
  No cell of these rows narrows 'for every input' (looked for: loops, veiled, ifaces, maps, wideKeys, modest, calm, conditions, laid).
  DERIVED. THE GIVEN ROWS OF THIS SEAT. 12 by the template 'for every input the law returns true; each argument reads behind the call as it read before'; 0 by the template 'total and deterministic' (their statements: YtjimfbkmfajkcabTotals.lean).
  GIVEN WITH THE SEED: the statements are not yours to turn. If you find one false, say at which input.
  Laid BY PROGRAM, IN A SANDBOX (cutbox-rows.mjs): the forced cells as the released guide's own fill.sh prints them over the translation 60787535a66ff612… (all of the seat's roots in one cut). By AI agents, Wed Nov 11 2026. No macro, syntax, notation, axiom, sorry.
-/
import Derived.Test.YtjimfbkmfajkcabChecked
import GoSem.Claim
import GoSem.ClaimJoined
import GoSem.ClaimMapViews
import Derived.JoinedTies
import Derived.KernelRfl
namespace Go.Proofs.Ytjimfbkmfajkcab
/- THE CELL 'sum', in the pinned program and in every row, IS THE sha256 OF THE DUMP (.gsa) THAT YtjimfbkmfajkcabProg.lean LOADS. Nothing in Lean hashes anything: it is a label: what it is worth is what the hold of that sum in a sandbox is worth. -/
noncomputable def Try.pinned : Pinned := { name := "ytjimfbkmfajkcab", sum := "60787535a66ff612c5c964bf6e039ada65e612362a16d9b34ae4453506a5ff83", checked := Try.checked }
namespace Rows
def none {H : Type} : Left H := { results := [], args := [] }

/-- 'calliperlaw7.MemoryNil': WHATEVER THE INPUT: true; the input reads as it did. -/
def memoryNilSpec : ChangeSpec := { name := "memoryNil", fn := fun _ => fun
  | [d1, d2, d3, d4] => { results := [.lit (.bool true)], args := [d1, d2, d3, d4] }
  | _ => none }
def memoryNilRow : OpenClaim := { program := "ytjimfbkmfajkcab", sum := "60787535a66ff612c5c964bf6e039ada65e612362a16d9b34ae4453506a5ff83", func := "calliper/calliperlaw7.MemoryNil", spec := "memoryNil", apart := false }
def MemoryNilSaid : Prop := memoryNilRow.holds Try.pinned (OpenSpec.ofChange memoryNilSpec)

/-- ITS FALSE NEIGHBOUR: 'it returns false'. Refute it at one input. -/
def memoryNilWrong : ChangeSpec := { name := "memoryNil", fn := fun _ => fun
  | [d1, d2, d3, d4] => { results := [.lit (.bool false)], args := [d1, d2, d3, d4] }
  | _ => none }
def MemoryNilWrongFalsely : Prop := memoryNilRow.holds Try.pinned (OpenSpec.ofChange memoryNilWrong)

/-- 'calliperlaw14.ItvWidens': WHATEVER THE INPUT: true; the input reads as it did. -/
def itvWidensSpec : ChangeSpec := { name := "itvWidens", fn := fun _ => fun
  | [d1, d2] => { results := [.lit (.bool true)], args := [d1, d2] }
  | _ => none }
def itvWidensRow : OpenClaim := { program := "ytjimfbkmfajkcab", sum := "60787535a66ff612c5c964bf6e039ada65e612362a16d9b34ae4453506a5ff83", func := "calliper/calliperlaw14.ItvWidens", spec := "itvWidens", apart := false }
def ItvWidensSaid : Prop := itvWidensRow.holds Try.pinned (OpenSpec.ofChange itvWidensSpec)

/-- ITS FALSE NEIGHBOUR: 'it returns false'. Refute it at one input. -/
def itvWidensWrong : ChangeSpec := { name := "itvWidens", fn := fun _ => fun
  | [d1, d2] => { results := [.lit (.bool false)], args := [d1, d2] }
  | _ => none }
def ItvWidensWrongFalsely : Prop := itvWidensRow.holds Try.pinned (OpenSpec.ofChange itvWidensWrong)

/-- 'calliperlaw14.ItvAll': WHATEVER THE INPUT: true; the input reads as it did. -/
def itvAllSpec : ChangeSpec := { name := "itvAll", fn := fun _ => fun
  | [d1, d2, d3, d4] => { results := [.lit (.bool true)], args := [d1, d2, d3, d4] }
  | _ => none }
def itvAllRow : OpenClaim := { program := "ytjimfbkmfajkcab", sum := "60787535a66ff612c5c964bf6e039ada65e612362a16d9b34ae4453506a5ff83", func := "calliper/calliperlaw14.ItvAll", spec := "itvAll", apart := false }
def ItvAllSaid : Prop := itvAllRow.holds Try.pinned (OpenSpec.ofChange itvAllSpec)

/-- ITS FALSE NEIGHBOUR: 'it returns false'. Refute it at one input. -/
def itvAllWrong : ChangeSpec := { name := "itvAll", fn := fun _ => fun
  | [d1, d2, d3, d4] => { results := [.lit (.bool false)], args := [d1, d2, d3, d4] }
  | _ => none }
def ItvAllWrongFalsely : Prop := itvAllRow.holds Try.pinned (OpenSpec.ofChange itvAllWrong)

/-- 'calliperlaw6.ArithFits': WHATEVER THE INPUT: true; the input reads as it did. -/
def arithFitsSpec : ChangeSpec := { name := "arithFits", fn := fun _ => fun
  | [d1, d2, d3, d4, d5] => { results := [.lit (.bool true)], args := [d1, d2, d3, d4, d5] }
  | _ => none }
def arithFitsRow : OpenClaim := { program := "ytjimfbkmfajkcab", sum := "60787535a66ff612c5c964bf6e039ada65e612362a16d9b34ae4453506a5ff83", func := "calliper/calliperlaw6.ArithFits", spec := "arithFits", apart := false }
def ArithFitsSaid : Prop := arithFitsRow.holds Try.pinned (OpenSpec.ofChange arithFitsSpec)

/-- ITS FALSE NEIGHBOUR: 'it returns false'. Refute it at one input. -/
def arithFitsWrong : ChangeSpec := { name := "arithFits", fn := fun _ => fun
  | [d1, d2, d3, d4, d5] => { results := [.lit (.bool false)], args := [d1, d2, d3, d4, d5] }
  | _ => none }
def ArithFitsWrongFalsely : Prop := arithFitsRow.holds Try.pinned (OpenSpec.ofChange arithFitsWrong)

/-- 'calliperlaw6.ArithSums': WHATEVER THE INPUT: true; the input reads as it did. -/
def arithSumsSpec : ChangeSpec := { name := "arithSums", fn := fun _ => fun
  | [d1, d2, d3, d4] => { results := [.lit (.bool true)], args := [d1, d2, d3, d4] }
  | _ => none }
def arithSumsRow : OpenClaim := { program := "ytjimfbkmfajkcab", sum := "60787535a66ff612c5c964bf6e039ada65e612362a16d9b34ae4453506a5ff83", func := "calliper/calliperlaw6.ArithSums", spec := "arithSums", apart := false }
def ArithSumsSaid : Prop := arithSumsRow.holds Try.pinned (OpenSpec.ofChange arithSumsSpec)

/-- ITS FALSE NEIGHBOUR: 'it returns false'. Refute it at one input. -/
def arithSumsWrong : ChangeSpec := { name := "arithSums", fn := fun _ => fun
  | [d1, d2, d3, d4] => { results := [.lit (.bool false)], args := [d1, d2, d3, d4] }
  | _ => none }
def ArithSumsWrongFalsely : Prop := arithSumsRow.holds Try.pinned (OpenSpec.ofChange arithSumsWrong)

/-- 'calliperlaw6.ArithDivs': WHATEVER THE INPUT: true; the input reads as it did. -/
def arithDivsSpec : ChangeSpec := { name := "arithDivs", fn := fun _ => fun
  | [d1, d2, d3, d4] => { results := [.lit (.bool true)], args := [d1, d2, d3, d4] }
  | _ => none }
def arithDivsRow : OpenClaim := { program := "ytjimfbkmfajkcab", sum := "60787535a66ff612c5c964bf6e039ada65e612362a16d9b34ae4453506a5ff83", func := "calliper/calliperlaw6.ArithDivs", spec := "arithDivs", apart := false }
def ArithDivsSaid : Prop := arithDivsRow.holds Try.pinned (OpenSpec.ofChange arithDivsSpec)

/-- ITS FALSE NEIGHBOUR: 'it returns false'. Refute it at one input. -/
def arithDivsWrong : ChangeSpec := { name := "arithDivs", fn := fun _ => fun
  | [d1, d2, d3, d4] => { results := [.lit (.bool false)], args := [d1, d2, d3, d4] }
  | _ => none }
def ArithDivsWrongFalsely : Prop := arithDivsRow.holds Try.pinned (OpenSpec.ofChange arithDivsWrong)

/-- 'calliperlaw6.ArithShifts': WHATEVER THE INPUT: true; the input reads as it did. -/
def arithShiftsSpec : ChangeSpec := { name := "arithShifts", fn := fun _ => fun
  | [d1, d2, d3] => { results := [.lit (.bool true)], args := [d1, d2, d3] }
  | _ => none }
def arithShiftsRow : OpenClaim := { program := "ytjimfbkmfajkcab", sum := "60787535a66ff612c5c964bf6e039ada65e612362a16d9b34ae4453506a5ff83", func := "calliper/calliperlaw6.ArithShifts", spec := "arithShifts", apart := false }
def ArithShiftsSaid : Prop := arithShiftsRow.holds Try.pinned (OpenSpec.ofChange arithShiftsSpec)

/-- ITS FALSE NEIGHBOUR: 'it returns false'. Refute it at one input. -/
def arithShiftsWrong : ChangeSpec := { name := "arithShifts", fn := fun _ => fun
  | [d1, d2, d3] => { results := [.lit (.bool false)], args := [d1, d2, d3] }
  | _ => none }
def ArithShiftsWrongFalsely : Prop := arithShiftsRow.holds Try.pinned (OpenSpec.ofChange arithShiftsWrong)

/-- 'calliperlaw6.ArithBits': WHATEVER THE INPUT: true; the input reads as it did. -/
def arithBitsSpec : ChangeSpec := { name := "arithBits", fn := fun _ => fun
  | [d1, d2, d3, d4] => { results := [.lit (.bool true)], args := [d1, d2, d3, d4] }
  | _ => none }
def arithBitsRow : OpenClaim := { program := "ytjimfbkmfajkcab", sum := "60787535a66ff612c5c964bf6e039ada65e612362a16d9b34ae4453506a5ff83", func := "calliper/calliperlaw6.ArithBits", spec := "arithBits", apart := false }
def ArithBitsSaid : Prop := arithBitsRow.holds Try.pinned (OpenSpec.ofChange arithBitsSpec)

/-- ITS FALSE NEIGHBOUR: 'it returns false'. Refute it at one input. -/
def arithBitsWrong : ChangeSpec := { name := "arithBits", fn := fun _ => fun
  | [d1, d2, d3, d4] => { results := [.lit (.bool false)], args := [d1, d2, d3, d4] }
  | _ => none }
def ArithBitsWrongFalsely : Prop := arithBitsRow.holds Try.pinned (OpenSpec.ofChange arithBitsWrong)

/-- 'calliperlaw6.ArithAll': WHATEVER THE INPUT: true; the input reads as it did. -/
def arithAllSpec : ChangeSpec := { name := "arithAll", fn := fun _ => fun
  | [d1, d2, d3, d4, d5] => { results := [.lit (.bool true)], args := [d1, d2, d3, d4, d5] }
  | _ => none }
def arithAllRow : OpenClaim := { program := "ytjimfbkmfajkcab", sum := "60787535a66ff612c5c964bf6e039ada65e612362a16d9b34ae4453506a5ff83", func := "calliper/calliperlaw6.ArithAll", spec := "arithAll", apart := false }
def ArithAllSaid : Prop := arithAllRow.holds Try.pinned (OpenSpec.ofChange arithAllSpec)

/-- ITS FALSE NEIGHBOUR: 'it returns false'. Refute it at one input. -/
def arithAllWrong : ChangeSpec := { name := "arithAll", fn := fun _ => fun
  | [d1, d2, d3, d4, d5] => { results := [.lit (.bool false)], args := [d1, d2, d3, d4, d5] }
  | _ => none }
def ArithAllWrongFalsely : Prop := arithAllRow.holds Try.pinned (OpenSpec.ofChange arithAllWrong)

/-- 'calliperlaw16.ZoneMoves': WHATEVER THE INPUT: true; the input reads as it did. -/
def zoneMovesSpec : ChangeSpec := { name := "zoneMoves", fn := fun _ => fun
  | [d1, d2, d3, d4, d5, d6] => { results := [.lit (.bool true)], args := [d1, d2, d3, d4, d5, d6] }
  | _ => none }
def zoneMovesRow : OpenClaim := { program := "ytjimfbkmfajkcab", sum := "60787535a66ff612c5c964bf6e039ada65e612362a16d9b34ae4453506a5ff83", func := "calliper/calliperlaw16.ZoneMoves", spec := "zoneMoves", apart := false }
def ZoneMovesSaid : Prop := zoneMovesRow.holds Try.pinned (OpenSpec.ofChange zoneMovesSpec)

/-- ITS FALSE NEIGHBOUR: 'it returns false'. Refute it at one input. -/
def zoneMovesWrong : ChangeSpec := { name := "zoneMoves", fn := fun _ => fun
  | [d1, d2, d3, d4, d5, d6] => { results := [.lit (.bool false)], args := [d1, d2, d3, d4, d5, d6] }
  | _ => none }
def ZoneMovesWrongFalsely : Prop := zoneMovesRow.holds Try.pinned (OpenSpec.ofChange zoneMovesWrong)

/-- 'calliperlaw16.ZoneCloses': WHATEVER THE INPUT: true; the input reads as it did. -/
def zoneClosesSpec : ChangeSpec := { name := "zoneCloses", fn := fun _ => fun
  | [d1, d2, d3] => { results := [.lit (.bool true)], args := [d1, d2, d3] }
  | _ => none }
def zoneClosesRow : OpenClaim := { program := "ytjimfbkmfajkcab", sum := "60787535a66ff612c5c964bf6e039ada65e612362a16d9b34ae4453506a5ff83", func := "calliper/calliperlaw16.ZoneCloses", spec := "zoneCloses", apart := false }
def ZoneClosesSaid : Prop := zoneClosesRow.holds Try.pinned (OpenSpec.ofChange zoneClosesSpec)

/-- ITS FALSE NEIGHBOUR: 'it returns false'. Refute it at one input. -/
def zoneClosesWrong : ChangeSpec := { name := "zoneCloses", fn := fun _ => fun
  | [d1, d2, d3] => { results := [.lit (.bool false)], args := [d1, d2, d3] }
  | _ => none }
def ZoneClosesWrongFalsely : Prop := zoneClosesRow.holds Try.pinned (OpenSpec.ofChange zoneClosesWrong)

/-- 'calliperlaw16.ZonePairs': WHATEVER THE INPUT: true; the input reads as it did. -/
def zonePairsSpec : ChangeSpec := { name := "zonePairs", fn := fun _ => fun
  | [d1, d2, d3] => { results := [.lit (.bool true)], args := [d1, d2, d3] }
  | _ => none }
def zonePairsRow : OpenClaim := { program := "ytjimfbkmfajkcab", sum := "60787535a66ff612c5c964bf6e039ada65e612362a16d9b34ae4453506a5ff83", func := "calliper/calliperlaw16.ZonePairs", spec := "zonePairs", unfollowed := true, recurses := true, apart := false }
def ZonePairsSaid : Prop := zonePairsRow.holds Try.pinned (OpenSpec.ofChange zonePairsSpec)

/-- ITS FALSE NEIGHBOUR: 'it returns false'. Refute it at one input. -/
def zonePairsWrong : ChangeSpec := { name := "zonePairs", fn := fun _ => fun
  | [d1, d2, d3] => { results := [.lit (.bool false)], args := [d1, d2, d3] }
  | _ => none }
def ZonePairsWrongFalsely : Prop := zonePairsRow.holds Try.pinned (OpenSpec.ofChange zonePairsWrong)

/- THE SECOND FORM. 'bulk': how many values and letters a reading holds, each counted each time it is reached (what is shared counts as often as it is met; a slice's spare places count too). A statement '..UptoSaid' is the law's where the arguments, and the package variables that the reading takes, are together of bulk at most 1048576: NARROWER than '..Said'. Prove '..Said' where nothing that the law and all that it calls make is longer than what came in: it says more and counts as full. Else prove '..UptoSaid'. A law counts once. -/
mutual
def uptoBulk {H : Type} : DataW H → Nat
  | .lit (.string bytes) => bytes.length + 1
  | .lit _ => 1
  | .nil => 1
  | .ptr d => uptoBulk d + 1
  | .slice elems spare => uptoBulkAll elems + uptoBulkAll spare + 1
  | .agg parts => uptoBulkAll parts + 1
  | .iface _ d => uptoBulk d + 1
  | .map entries => uptoBulkEntries entries + 1
  | .held _ => 1
def uptoBulkAll {H : Type} : List (DataW H) → Nat
  | [] => 0
  | d :: r => uptoBulk d + uptoBulkAll r
def uptoBulkEntries {H : Type} : List (Lit × DataW H) → Nat
  | [] => 0
  | x :: r => uptoBulkEntry x + uptoBulkEntries r
def uptoBulkEntry {H : Type} : Lit × DataW H → Nat
  | (.string bytes, d) => bytes.length + uptoBulk d + 1
  | (_, d) => uptoBulk d + 1
 end
def uptoSmall : (H : Type) → List (DataW H) → Bool := fun _ ds => decide (uptoBulkAll ds ≤ 1048576)
def OpenSpec.upto (s : _root_.Go.ChangeSpec) : _root_.Go.OpenSpec := { _root_.Go.OpenSpec.ofChange s with cond := some uptoSmall }

/-- 'calliperlaw7.MemoryNil', WHERE WHAT IT READS IS OF BULK AT MOST 1048576: true; the input reads as it did. -/
def memoryNilUptoRow : OpenClaim := { program := "ytjimfbkmfajkcab", sum := "60787535a66ff612c5c964bf6e039ada65e612362a16d9b34ae4453506a5ff83", func := "calliper/calliperlaw7.MemoryNil", spec := "memoryNil", apart := false, narrowed := true }
def MemoryNilUptoSaid : Prop := memoryNilUptoRow.holds Try.pinned (OpenSpec.upto memoryNilSpec)

/-- 'calliperlaw14.ItvWidens', WHERE WHAT IT READS IS OF BULK AT MOST 1048576: true; the input reads as it did. -/
def itvWidensUptoRow : OpenClaim := { program := "ytjimfbkmfajkcab", sum := "60787535a66ff612c5c964bf6e039ada65e612362a16d9b34ae4453506a5ff83", func := "calliper/calliperlaw14.ItvWidens", spec := "itvWidens", apart := false, narrowed := true }
def ItvWidensUptoSaid : Prop := itvWidensUptoRow.holds Try.pinned (OpenSpec.upto itvWidensSpec)

/-- 'calliperlaw14.ItvAll', WHERE WHAT IT READS IS OF BULK AT MOST 1048576: true; the input reads as it did. -/
def itvAllUptoRow : OpenClaim := { program := "ytjimfbkmfajkcab", sum := "60787535a66ff612c5c964bf6e039ada65e612362a16d9b34ae4453506a5ff83", func := "calliper/calliperlaw14.ItvAll", spec := "itvAll", apart := false, narrowed := true }
def ItvAllUptoSaid : Prop := itvAllUptoRow.holds Try.pinned (OpenSpec.upto itvAllSpec)

/-- 'calliperlaw6.ArithFits', WHERE WHAT IT READS IS OF BULK AT MOST 1048576: true; the input reads as it did. -/
def arithFitsUptoRow : OpenClaim := { program := "ytjimfbkmfajkcab", sum := "60787535a66ff612c5c964bf6e039ada65e612362a16d9b34ae4453506a5ff83", func := "calliper/calliperlaw6.ArithFits", spec := "arithFits", apart := false, narrowed := true }
def ArithFitsUptoSaid : Prop := arithFitsUptoRow.holds Try.pinned (OpenSpec.upto arithFitsSpec)

/-- 'calliperlaw6.ArithSums', WHERE WHAT IT READS IS OF BULK AT MOST 1048576: true; the input reads as it did. -/
def arithSumsUptoRow : OpenClaim := { program := "ytjimfbkmfajkcab", sum := "60787535a66ff612c5c964bf6e039ada65e612362a16d9b34ae4453506a5ff83", func := "calliper/calliperlaw6.ArithSums", spec := "arithSums", apart := false, narrowed := true }
def ArithSumsUptoSaid : Prop := arithSumsUptoRow.holds Try.pinned (OpenSpec.upto arithSumsSpec)

/-- 'calliperlaw6.ArithDivs', WHERE WHAT IT READS IS OF BULK AT MOST 1048576: true; the input reads as it did. -/
def arithDivsUptoRow : OpenClaim := { program := "ytjimfbkmfajkcab", sum := "60787535a66ff612c5c964bf6e039ada65e612362a16d9b34ae4453506a5ff83", func := "calliper/calliperlaw6.ArithDivs", spec := "arithDivs", apart := false, narrowed := true }
def ArithDivsUptoSaid : Prop := arithDivsUptoRow.holds Try.pinned (OpenSpec.upto arithDivsSpec)

/-- 'calliperlaw6.ArithShifts', WHERE WHAT IT READS IS OF BULK AT MOST 1048576: true; the input reads as it did. -/
def arithShiftsUptoRow : OpenClaim := { program := "ytjimfbkmfajkcab", sum := "60787535a66ff612c5c964bf6e039ada65e612362a16d9b34ae4453506a5ff83", func := "calliper/calliperlaw6.ArithShifts", spec := "arithShifts", apart := false, narrowed := true }
def ArithShiftsUptoSaid : Prop := arithShiftsUptoRow.holds Try.pinned (OpenSpec.upto arithShiftsSpec)

/-- 'calliperlaw6.ArithBits', WHERE WHAT IT READS IS OF BULK AT MOST 1048576: true; the input reads as it did. -/
def arithBitsUptoRow : OpenClaim := { program := "ytjimfbkmfajkcab", sum := "60787535a66ff612c5c964bf6e039ada65e612362a16d9b34ae4453506a5ff83", func := "calliper/calliperlaw6.ArithBits", spec := "arithBits", apart := false, narrowed := true }
def ArithBitsUptoSaid : Prop := arithBitsUptoRow.holds Try.pinned (OpenSpec.upto arithBitsSpec)

/-- 'calliperlaw6.ArithAll', WHERE WHAT IT READS IS OF BULK AT MOST 1048576: true; the input reads as it did. -/
def arithAllUptoRow : OpenClaim := { program := "ytjimfbkmfajkcab", sum := "60787535a66ff612c5c964bf6e039ada65e612362a16d9b34ae4453506a5ff83", func := "calliper/calliperlaw6.ArithAll", spec := "arithAll", apart := false, narrowed := true }
def ArithAllUptoSaid : Prop := arithAllUptoRow.holds Try.pinned (OpenSpec.upto arithAllSpec)

/-- 'calliperlaw16.ZoneMoves', WHERE WHAT IT READS IS OF BULK AT MOST 1048576: true; the input reads as it did. -/
def zoneMovesUptoRow : OpenClaim := { program := "ytjimfbkmfajkcab", sum := "60787535a66ff612c5c964bf6e039ada65e612362a16d9b34ae4453506a5ff83", func := "calliper/calliperlaw16.ZoneMoves", spec := "zoneMoves", apart := false, narrowed := true }
def ZoneMovesUptoSaid : Prop := zoneMovesUptoRow.holds Try.pinned (OpenSpec.upto zoneMovesSpec)

/-- 'calliperlaw16.ZoneCloses', WHERE WHAT IT READS IS OF BULK AT MOST 1048576: true; the input reads as it did. -/
def zoneClosesUptoRow : OpenClaim := { program := "ytjimfbkmfajkcab", sum := "60787535a66ff612c5c964bf6e039ada65e612362a16d9b34ae4453506a5ff83", func := "calliper/calliperlaw16.ZoneCloses", spec := "zoneCloses", apart := false, narrowed := true }
def ZoneClosesUptoSaid : Prop := zoneClosesUptoRow.holds Try.pinned (OpenSpec.upto zoneClosesSpec)

/-- 'calliperlaw16.ZonePairs', WHERE WHAT IT READS IS OF BULK AT MOST 1048576: true; the input reads as it did. -/
def zonePairsUptoRow : OpenClaim := { program := "ytjimfbkmfajkcab", sum := "60787535a66ff612c5c964bf6e039ada65e612362a16d9b34ae4453506a5ff83", func := "calliper/calliperlaw16.ZonePairs", spec := "zonePairs", unfollowed := true, recurses := true, apart := false, narrowed := true }
def ZonePairsUptoSaid : Prop := zonePairsUptoRow.holds Try.pinned (OpenSpec.upto zonePairsSpec)

end Rows
end Go.Proofs.Ytjimfbkmfajkcab
