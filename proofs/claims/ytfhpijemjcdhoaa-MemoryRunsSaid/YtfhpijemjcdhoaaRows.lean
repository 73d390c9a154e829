/-
  No cell of these rows narrows 'for every input' (looked for: loops, veiled, ifaces, maps, wideKeys, modest, calm, conditions, laid).
  DERIVED. THE GIVEN ROWS OF THIS SEAT. 4 by the template 'for every input the law returns true; each argument reads behind the call as it read before'; 0 by the template 'total and deterministic' (their statements: YtfhpijemjcdhoaaTotals.lean).
  GIVEN WITH THE SEED: the statements are not yours to turn. If you find one false, say at which input.
  Laid BY PROGRAM, IN A SANDBOX (cutbox-rows.mjs): the forced cells as the released guide's own fill.sh prints them over the translation 1d0acb190256f0d2… (all of the seat's roots in one cut). By AI agents, Wed Nov 11 2026. No macro, syntax, notation, axiom, sorry.
-/
import Derived.Test.YtfhpijemjcdhoaaChecked
import GoSem.Claim
import GoSem.ClaimJoined
import GoSem.ClaimMapViews
import Derived.JoinedTies
import Derived.KernelRfl
namespace Go.Proofs.Ytfhpijemjcdhoaa
/- THE CELL 'sum', in the pinned program and in every row, IS THE sha256 OF THE DUMP (.gsa) THAT YtfhpijemjcdhoaaProg.lean LOADS. Nothing in Lean hashes anything: it is a label: what it is worth is what the hold of that sum in a sandbox is worth. -/
noncomputable def Try.pinned : Pinned := { name := "ytfhpijemjcdhoaa", sum := "1d0acb190256f0d2da478cd821e048155ee991dd4b69a291734cc59768f0328b", checked := Try.checked }
namespace Rows
def none {H : Type} : Left H := { results := [], args := [] }

/-- 'calliperlaw7.MemoryWraps': WHATEVER THE INPUT: true; the input reads as it did. -/
def memoryWrapsSpec : ChangeSpec := { name := "memoryWraps", fn := fun _ => fun
  | [d1, d2] => { results := [.lit (.bool true)], args := [d1, d2] }
  | _ => none }
def memoryWrapsRow : OpenClaim := { program := "ytfhpijemjcdhoaa", sum := "1d0acb190256f0d2da478cd821e048155ee991dd4b69a291734cc59768f0328b", func := "calliper/calliperlaw7.MemoryWraps", spec := "memoryWraps", apart := false }
def MemoryWrapsSaid : Prop := memoryWrapsRow.holds Try.pinned (OpenSpec.ofChange memoryWrapsSpec)

/-- ITS FALSE NEIGHBOUR: 'it returns false'. Refute it at one input. -/
def memoryWrapsWrong : ChangeSpec := { name := "memoryWraps", fn := fun _ => fun
  | [d1, d2] => { results := [.lit (.bool false)], args := [d1, d2] }
  | _ => none }
def MemoryWrapsWrongFalsely : Prop := memoryWrapsRow.holds Try.pinned (OpenSpec.ofChange memoryWrapsWrong)

/-- 'calliperlaw7.MemoryApart': WHATEVER THE INPUT: true; the input reads as it did. -/
def memoryApartSpec : ChangeSpec := { name := "memoryApart", fn := fun _ => fun
  | [d1, d2, d3, d4] => { results := [.lit (.bool true)], args := [d1, d2, d3, d4] }
  | _ => none }
def memoryApartRow : OpenClaim := { program := "ytfhpijemjcdhoaa", sum := "1d0acb190256f0d2da478cd821e048155ee991dd4b69a291734cc59768f0328b", func := "calliper/calliperlaw7.MemoryApart", spec := "memoryApart", apart := false }
def MemoryApartSaid : Prop := memoryApartRow.holds Try.pinned (OpenSpec.ofChange memoryApartSpec)

/-- ITS FALSE NEIGHBOUR: 'it returns false'. Refute it at one input. -/
def memoryApartWrong : ChangeSpec := { name := "memoryApart", fn := fun _ => fun
  | [d1, d2, d3, d4] => { results := [.lit (.bool false)], args := [d1, d2, d3, d4] }
  | _ => none }
def MemoryApartWrongFalsely : Prop := memoryApartRow.holds Try.pinned (OpenSpec.ofChange memoryApartWrong)

/-- 'calliperlaw7.MemoryRuns': WHATEVER THE INPUT: true; the input reads as it did. -/
def memoryRunsSpec : ChangeSpec := { name := "memoryRuns", fn := fun _ => fun
  | [d] => { results := [.lit (.bool true)], args := [d] }
  | _ => none }
def memoryRunsRow : OpenClaim := { program := "ytfhpijemjcdhoaa", sum := "1d0acb190256f0d2da478cd821e048155ee991dd4b69a291734cc59768f0328b", func := "calliper/calliperlaw7.MemoryRuns", spec := "memoryRuns", apart := false }
def MemoryRunsSaid : Prop := memoryRunsRow.holds Try.pinned (OpenSpec.ofChange memoryRunsSpec)

/-- ITS FALSE NEIGHBOUR: 'it returns false'. Refute it at one input. -/
def memoryRunsWrong : ChangeSpec := { name := "memoryRuns", fn := fun _ => fun
  | [d] => { results := [.lit (.bool false)], args := [d] }
  | _ => none }
def MemoryRunsWrongFalsely : Prop := memoryRunsRow.holds Try.pinned (OpenSpec.ofChange memoryRunsWrong)

/-- 'calliperlaw7.MemoryNil': WHATEVER THE INPUT: true; the input reads as it did. -/
def memoryNilSpec : ChangeSpec := { name := "memoryNil", fn := fun _ => fun
  | [d1, d2, d3, d4] => { results := [.lit (.bool true)], args := [d1, d2, d3, d4] }
  | _ => none }
def memoryNilRow : OpenClaim := { program := "ytfhpijemjcdhoaa", sum := "1d0acb190256f0d2da478cd821e048155ee991dd4b69a291734cc59768f0328b", func := "calliper/calliperlaw7.MemoryNil", spec := "memoryNil", apart := false }
def MemoryNilSaid : Prop := memoryNilRow.holds Try.pinned (OpenSpec.ofChange memoryNilSpec)

/-- ITS FALSE NEIGHBOUR: 'it returns false'. Refute it at one input. -/
def memoryNilWrong : ChangeSpec := { name := "memoryNil", fn := fun _ => fun
  | [d1, d2, d3, d4] => { results := [.lit (.bool false)], args := [d1, d2, d3, d4] }
  | _ => none }
def MemoryNilWrongFalsely : Prop := memoryNilRow.holds Try.pinned (OpenSpec.ofChange memoryNilWrong)

/- THE SECOND FORM. 'bulk': how many values and letters a reading holds, each counted each time it is reached (what is shared counts as often as it is met; a slice's spare places count too). A statement '..UptoSaid' is the law's where the arguments, and the package variables that the reading takes, are together of bulk at most 1048576: NARROWER than '..Said'. Prove '..Said' where nothing that the law and all that it calls make is longer than what came in: it says more and counts as full. Else prove '..UptoSaid'. A law counts once. -/
mutual
def uptoBulk {H : Type} : DataW H → Nat
  | .lit (.string bytes) => bytes.length + 1
  | .lit _ => 1
  | .nil => 1
  | .ptr d => uptoBulk d + 1
  | .slice elems spare => uptoBulkAll elems + uptoBulkAll spare + 1
  | .agg parts => uptoBulkAll parts + 1
  | .iface _ d => uptoBulk d + 1
  | .map entries => uptoBulkEntries entries + 1
  | .held _ => 1
def uptoBulkAll {H : Type} : List (DataW H) → Nat
  | [] => 0
  | d :: r => uptoBulk d + uptoBulkAll r
def uptoBulkEntries {H : Type} : List (Lit × DataW H) → Nat
  | [] => 0
  | x :: r => uptoBulkEntry x + uptoBulkEntries r
def uptoBulkEntry {H : Type} : Lit × DataW H → Nat
  | (.string bytes, d) => bytes.length + uptoBulk d + 1
  | (_, d) => uptoBulk d + 1
 end
def uptoSmall : (H : Type) → List (DataW H) → Bool := fun _ ds => decide (uptoBulkAll ds ≤ 1048576)
def OpenSpec.upto (s : _root_.Go.ChangeSpec) : _root_.Go.OpenSpec := { _root_.Go.OpenSpec.ofChange s with cond := some uptoSmall }

/-- 'calliperlaw7.MemoryWraps', WHERE WHAT IT READS IS OF BULK AT MOST 1048576: true; the input reads as it did. -/
def memoryWrapsUptoRow : OpenClaim := { program := "ytfhpijemjcdhoaa", sum := "1d0acb190256f0d2da478cd821e048155ee991dd4b69a291734cc59768f0328b", func := "calliper/calliperlaw7.MemoryWraps", spec := "memoryWraps", apart := false, narrowed := true }
def MemoryWrapsUptoSaid : Prop := memoryWrapsUptoRow.holds Try.pinned (OpenSpec.upto memoryWrapsSpec)

/-- 'calliperlaw7.MemoryApart', WHERE WHAT IT READS IS OF BULK AT MOST 1048576: true; the input reads as it did. -/
def memoryApartUptoRow : OpenClaim := { program := "ytfhpijemjcdhoaa", sum := "1d0acb190256f0d2da478cd821e048155ee991dd4b69a291734cc59768f0328b", func := "calliper/calliperlaw7.MemoryApart", spec := "memoryApart", apart := false, narrowed := true }
def MemoryApartUptoSaid : Prop := memoryApartUptoRow.holds Try.pinned (OpenSpec.upto memoryApartSpec)

/-- 'calliperlaw7.MemoryRuns', WHERE WHAT IT READS IS OF BULK AT MOST 1048576: true; the input reads as it did. -/
def memoryRunsUptoRow : OpenClaim := { program := "ytfhpijemjcdhoaa", sum := "1d0acb190256f0d2da478cd821e048155ee991dd4b69a291734cc59768f0328b", func := "calliper/calliperlaw7.MemoryRuns", spec := "memoryRuns", apart := false, narrowed := true }
def MemoryRunsUptoSaid : Prop := memoryRunsUptoRow.holds Try.pinned (OpenSpec.upto memoryRunsSpec)

/-- 'calliperlaw7.MemoryNil', WHERE WHAT IT READS IS OF BULK AT MOST 1048576: true; the input reads as it did. -/
def memoryNilUptoRow : OpenClaim := { program := "ytfhpijemjcdhoaa", sum := "1d0acb190256f0d2da478cd821e048155ee991dd4b69a291734cc59768f0328b", func := "calliper/calliperlaw7.MemoryNil", spec := "memoryNil", apart := false, narrowed := true }
def MemoryNilUptoSaid : Prop := memoryNilUptoRow.holds Try.pinned (OpenSpec.upto memoryNilSpec)

end Rows
end Go.Proofs.Ytfhpijemjcdhoaa
