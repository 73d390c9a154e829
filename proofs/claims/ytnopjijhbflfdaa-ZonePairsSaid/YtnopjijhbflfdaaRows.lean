/-
  No cell of these rows narrows 'for every input' (looked for: loops, veiled, ifaces, maps, wideKeys, modest, calm, conditions, laid).
  DERIVED. THE GIVEN ROWS OF THIS SEAT. 6 by the template 'for every input the law returns true; each argument reads behind the call as it read before'; 0 by the template 'total and deterministic' (their statements: YtnopjijhbflfdaaTotals.lean).
  GIVEN WITH THE SEED: the statements are not yours to turn. If you find one false, say at which input.
  Laid BY PROGRAM, IN A SANDBOX (cutbox-rows.mjs): the forced cells as the released guide's own fill.sh prints them over the translation 18035291d1245f30… (all of the seat's roots in one cut). By AI agents, Wed Nov 11 2026. No macro, syntax, notation, axiom, sorry.
-/
import Derived.Test.YtnopjijhbflfdaaChecked
import GoSem.Claim
import GoSem.ClaimJoined
import GoSem.ClaimMapViews
import Derived.JoinedTies
import Derived.KernelRfl
namespace Go.Proofs.Ytnopjijhbflfdaa
/- THE CELL 'sum', in the pinned program and in every row, IS THE sha256 OF THE DUMP (.gsa) THAT YtnopjijhbflfdaaProg.lean LOADS. Nothing in Lean hashes anything: it is a label: what it is worth is what the hold of that sum in a sandbox is worth. -/
noncomputable def Try.pinned : Pinned := { name := "ytnopjijhbflfdaa", sum := "18035291d1245f30144d937278ca2340b864e89b968599e767b9a0f4b1885efd", checked := Try.checked }
namespace Rows
def none {H : Type} : Left H := { results := [], args := [] }

/-- 'calliperlaw16.ZoneTight': WHATEVER THE INPUT: true; the input reads as it did. -/
def zoneTightSpec : ChangeSpec := { name := "zoneTight", fn := fun _ => fun
  | [d] => { results := [.lit (.bool true)], args := [d] }
  | _ => none }
def zoneTightRow : OpenClaim := { program := "ytnopjijhbflfdaa", sum := "18035291d1245f30144d937278ca2340b864e89b968599e767b9a0f4b1885efd", func := "calliper/calliperlaw16.ZoneTight", spec := "zoneTight", apart := false }
def ZoneTightSaid : Prop := zoneTightRow.holds Try.pinned (OpenSpec.ofChange zoneTightSpec)

/-- ITS FALSE NEIGHBOUR: 'it returns false'. Refute it at one input. -/
def zoneTightWrong : ChangeSpec := { name := "zoneTight", fn := fun _ => fun
  | [d] => { results := [.lit (.bool false)], args := [d] }
  | _ => none }
def ZoneTightWrongFalsely : Prop := zoneTightRow.holds Try.pinned (OpenSpec.ofChange zoneTightWrong)

/-- 'calliperlaw16.ZoneNone': WHATEVER THE INPUT: true; the input reads as it did. -/
def zoneNoneSpec : ChangeSpec := { name := "zoneNone", fn := fun _ => fun
  | [d1, d2, d3, d4, d5] => { results := [.lit (.bool true)], args := [d1, d2, d3, d4, d5] }
  | _ => none }
def zoneNoneRow : OpenClaim := { program := "ytnopjijhbflfdaa", sum := "18035291d1245f30144d937278ca2340b864e89b968599e767b9a0f4b1885efd", func := "calliper/calliperlaw16.ZoneNone", spec := "zoneNone", apart := false }
def ZoneNoneSaid : Prop := zoneNoneRow.holds Try.pinned (OpenSpec.ofChange zoneNoneSpec)

/-- ITS FALSE NEIGHBOUR: 'it returns false'. Refute it at one input. -/
def zoneNoneWrong : ChangeSpec := { name := "zoneNone", fn := fun _ => fun
  | [d1, d2, d3, d4, d5] => { results := [.lit (.bool false)], args := [d1, d2, d3, d4, d5] }
  | _ => none }
def ZoneNoneWrongFalsely : Prop := zoneNoneRow.holds Try.pinned (OpenSpec.ofChange zoneNoneWrong)

/-- 'calliperlaw16.ZoneMoves': WHATEVER THE INPUT: true; the input reads as it did. -/
def zoneMovesSpec : ChangeSpec := { name := "zoneMoves", fn := fun _ => fun
  | [d1, d2, d3, d4, d5, d6] => { results := [.lit (.bool true)], args := [d1, d2, d3, d4, d5, d6] }
  | _ => none }
def zoneMovesRow : OpenClaim := { program := "ytnopjijhbflfdaa", sum := "18035291d1245f30144d937278ca2340b864e89b968599e767b9a0f4b1885efd", func := "calliper/calliperlaw16.ZoneMoves", spec := "zoneMoves", apart := false }
def ZoneMovesSaid : Prop := zoneMovesRow.holds Try.pinned (OpenSpec.ofChange zoneMovesSpec)

/-- ITS FALSE NEIGHBOUR: 'it returns false'. Refute it at one input. -/
def zoneMovesWrong : ChangeSpec := { name := "zoneMoves", fn := fun _ => fun
  | [d1, d2, d3, d4, d5, d6] => { results := [.lit (.bool false)], args := [d1, d2, d3, d4, d5, d6] }
  | _ => none }
def ZoneMovesWrongFalsely : Prop := zoneMovesRow.holds Try.pinned (OpenSpec.ofChange zoneMovesWrong)

/-- 'calliperlaw16.ZoneCloses': WHATEVER THE INPUT: true; the input reads as it did. -/
def zoneClosesSpec : ChangeSpec := { name := "zoneCloses", fn := fun _ => fun
  | [d1, d2, d3] => { results := [.lit (.bool true)], args := [d1, d2, d3] }
  | _ => none }
def zoneClosesRow : OpenClaim := { program := "ytnopjijhbflfdaa", sum := "18035291d1245f30144d937278ca2340b864e89b968599e767b9a0f4b1885efd", func := "calliper/calliperlaw16.ZoneCloses", spec := "zoneCloses", apart := false }
def ZoneClosesSaid : Prop := zoneClosesRow.holds Try.pinned (OpenSpec.ofChange zoneClosesSpec)

/-- ITS FALSE NEIGHBOUR: 'it returns false'. Refute it at one input. -/
def zoneClosesWrong : ChangeSpec := { name := "zoneCloses", fn := fun _ => fun
  | [d1, d2, d3] => { results := [.lit (.bool false)], args := [d1, d2, d3] }
  | _ => none }
def ZoneClosesWrongFalsely : Prop := zoneClosesRow.holds Try.pinned (OpenSpec.ofChange zoneClosesWrong)

/-- 'calliperlaw16.ZonePairs': WHATEVER THE INPUT: true; the input reads as it did. -/
def zonePairsSpec : ChangeSpec := { name := "zonePairs", fn := fun _ => fun
  | [d1, d2, d3] => { results := [.lit (.bool true)], args := [d1, d2, d3] }
  | _ => none }
def zonePairsRow : OpenClaim := { program := "ytnopjijhbflfdaa", sum := "18035291d1245f30144d937278ca2340b864e89b968599e767b9a0f4b1885efd", func := "calliper/calliperlaw16.ZonePairs", spec := "zonePairs", unfollowed := true, recurses := true, apart := false }
def ZonePairsSaid : Prop := zonePairsRow.holds Try.pinned (OpenSpec.ofChange zonePairsSpec)

/-- ITS FALSE NEIGHBOUR: 'it returns false'. Refute it at one input. -/
def zonePairsWrong : ChangeSpec := { name := "zonePairs", fn := fun _ => fun
  | [d1, d2, d3] => { results := [.lit (.bool false)], args := [d1, d2, d3] }
  | _ => none }
def ZonePairsWrongFalsely : Prop := zonePairsRow.holds Try.pinned (OpenSpec.ofChange zonePairsWrong)

/-- 'calliperlaw16.ZoneSound': WHATEVER THE INPUT: true; the input reads as it did. -/
def zoneSoundSpec : ChangeSpec := { name := "zoneSound", fn := fun _ => fun
  | [d1, d2, d3] => { results := [.lit (.bool true)], args := [d1, d2, d3] }
  | _ => none }
def zoneSoundRow : OpenClaim := { program := "ytnopjijhbflfdaa", sum := "18035291d1245f30144d937278ca2340b864e89b968599e767b9a0f4b1885efd", func := "calliper/calliperlaw16.ZoneSound", spec := "zoneSound", unfollowed := true, recurses := true, apart := false }
def ZoneSoundSaid : Prop := zoneSoundRow.holds Try.pinned (OpenSpec.ofChange zoneSoundSpec)

/-- ITS FALSE NEIGHBOUR: 'it returns false'. Refute it at one input. -/
def zoneSoundWrong : ChangeSpec := { name := "zoneSound", fn := fun _ => fun
  | [d1, d2, d3] => { results := [.lit (.bool false)], args := [d1, d2, d3] }
  | _ => none }
def ZoneSoundWrongFalsely : Prop := zoneSoundRow.holds Try.pinned (OpenSpec.ofChange zoneSoundWrong)

/- THE SECOND FORM. 'bulk': how many values and letters a reading holds, each counted each time it is reached (what is shared counts as often as it is met; a slice's spare places count too). A statement '..UptoSaid' is the law's where the arguments, and the package variables that the reading takes, are together of bulk at most 1048576: NARROWER than '..Said'. Prove '..Said' where nothing that the law and all that it calls make is longer than what came in: it says more and counts as full. Else prove '..UptoSaid'. A law counts once. -/
mutual
def uptoBulk {H : Type} : DataW H → Nat
  | .lit (.string bytes) => bytes.length + 1
  | .lit _ => 1
  | .nil => 1
  | .ptr d => uptoBulk d + 1
  | .slice elems spare => uptoBulkAll elems + uptoBulkAll spare + 1
  | .agg parts => uptoBulkAll parts + 1
  | .iface _ d => uptoBulk d + 1
  | .map entries => uptoBulkEntries entries + 1
  | .held _ => 1
def uptoBulkAll {H : Type} : List (DataW H) → Nat
  | [] => 0
  | d :: r => uptoBulk d + uptoBulkAll r
def uptoBulkEntries {H : Type} : List (Lit × DataW H) → Nat
  | [] => 0
  | x :: r => uptoBulkEntry x + uptoBulkEntries r
def uptoBulkEntry {H : Type} : Lit × DataW H → Nat
  | (.string bytes, d) => bytes.length + uptoBulk d + 1
  | (_, d) => uptoBulk d + 1
 end
def uptoSmall : (H : Type) → List (DataW H) → Bool := fun _ ds => decide (uptoBulkAll ds ≤ 1048576)
def OpenSpec.upto (s : _root_.Go.ChangeSpec) : _root_.Go.OpenSpec := { _root_.Go.OpenSpec.ofChange s with cond := some uptoSmall }

/-- 'calliperlaw16.ZoneTight', WHERE WHAT IT READS IS OF BULK AT MOST 1048576: true; the input reads as it did. -/
def zoneTightUptoRow : OpenClaim := { program := "ytnopjijhbflfdaa", sum := "18035291d1245f30144d937278ca2340b864e89b968599e767b9a0f4b1885efd", func := "calliper/calliperlaw16.ZoneTight", spec := "zoneTight", apart := false, narrowed := true }
def ZoneTightUptoSaid : Prop := zoneTightUptoRow.holds Try.pinned (OpenSpec.upto zoneTightSpec)

/-- 'calliperlaw16.ZoneNone', WHERE WHAT IT READS IS OF BULK AT MOST 1048576: true; the input reads as it did. -/
def zoneNoneUptoRow : OpenClaim := { program := "ytnopjijhbflfdaa", sum := "18035291d1245f30144d937278ca2340b864e89b968599e767b9a0f4b1885efd", func := "calliper/calliperlaw16.ZoneNone", spec := "zoneNone", apart := false, narrowed := true }
def ZoneNoneUptoSaid : Prop := zoneNoneUptoRow.holds Try.pinned (OpenSpec.upto zoneNoneSpec)

/-- 'calliperlaw16.ZoneMoves', WHERE WHAT IT READS IS OF BULK AT MOST 1048576: true; the input reads as it did. -/
def zoneMovesUptoRow : OpenClaim := { program := "ytnopjijhbflfdaa", sum := "18035291d1245f30144d937278ca2340b864e89b968599e767b9a0f4b1885efd", func := "calliper/calliperlaw16.ZoneMoves", spec := "zoneMoves", apart := false, narrowed := true }
def ZoneMovesUptoSaid : Prop := zoneMovesUptoRow.holds Try.pinned (OpenSpec.upto zoneMovesSpec)

/-- 'calliperlaw16.ZoneCloses', WHERE WHAT IT READS IS OF BULK AT MOST 1048576: true; the input reads as it did. -/
def zoneClosesUptoRow : OpenClaim := { program := "ytnopjijhbflfdaa", sum := "18035291d1245f30144d937278ca2340b864e89b968599e767b9a0f4b1885efd", func := "calliper/calliperlaw16.ZoneCloses", spec := "zoneCloses", apart := false, narrowed := true }
def ZoneClosesUptoSaid : Prop := zoneClosesUptoRow.holds Try.pinned (OpenSpec.upto zoneClosesSpec)

/-- 'calliperlaw16.ZonePairs', WHERE WHAT IT READS IS OF BULK AT MOST 1048576: true; the input reads as it did. -/
def zonePairsUptoRow : OpenClaim := { program := "ytnopjijhbflfdaa", sum := "18035291d1245f30144d937278ca2340b864e89b968599e767b9a0f4b1885efd", func := "calliper/calliperlaw16.ZonePairs", spec := "zonePairs", unfollowed := true, recurses := true, apart := false, narrowed := true }
def ZonePairsUptoSaid : Prop := zonePairsUptoRow.holds Try.pinned (OpenSpec.upto zonePairsSpec)

/-- 'calliperlaw16.ZoneSound', WHERE WHAT IT READS IS OF BULK AT MOST 1048576: true; the input reads as it did. -/
def zoneSoundUptoRow : OpenClaim := { program := "ytnopjijhbflfdaa", sum := "18035291d1245f30144d937278ca2340b864e89b968599e767b9a0f4b1885efd", func := "calliper/calliperlaw16.ZoneSound", spec := "zoneSound", unfollowed := true, recurses := true, apart := false, narrowed := true }
def ZoneSoundUptoSaid : Prop := zoneSoundUptoRow.holds Try.pinned (OpenSpec.upto zoneSoundSpec)

end Rows
end Go.Proofs.Ytnopjijhbflfdaa
