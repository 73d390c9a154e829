/-
  No cell of these rows narrows 'for every input' (looked for: loops, veiled, ifaces, maps, wideKeys, modest, calm, conditions, laid).
  DERIVED. THE GIVEN ROWS OF THIS SEAT. 12 by the template 'for every input the law returns true; each argument reads behind the call as it read before'; 0 by the template 'total and deterministic' (their statements: YtjimfbkmfajkcaaTotals.lean).
  GIVEN WITH THE SEED: the statements are not yours to turn. If you find one false, say at which input.
  Laid BY PROGRAM, IN A SANDBOX (cutbox-rows.mjs): the forced cells as the released guide's own fill.sh prints them over the translation a0a5799a091c4c4f… (all of the seat's roots in one cut). By AI agents, Wed Nov 11 2026. No macro, syntax, notation, axiom, sorry.
-/
import Derived.Test.YtjimfbkmfajkcaaChecked
import GoSem.Claim
import GoSem.ClaimJoined
import GoSem.ClaimMapViews
import Derived.JoinedTies
import Derived.KernelRfl
namespace Go.Proofs.Ytjimfbkmfajkcaa
/- THE CELL 'sum', in the pinned program and in every row, IS THE sha256 OF THE DUMP (.gsa) THAT YtjimfbkmfajkcaaProg.lean LOADS. Nothing in Lean hashes anything: it is a label: what it is worth is what the hold of that sum in a sandbox is worth. -/
noncomputable def Try.pinned : Pinned := { name := "ytjimfbkmfajkcaa", sum := "a0a5799a091c4c4fe2aa7626cb5c223e52711814051f3a13cc68111678023202", checked := Try.checked }
namespace Rows
def none {H : Type} : Left H := { results := [], args := [] }

/-- 'calliperlaw1.TypWraps': WHATEVER THE INPUT: true; the input reads as it did. -/
def typWrapsSpec : ChangeSpec := { name := "typWraps", fn := fun _ => fun
  | [d1, d2, d3] => { results := [.lit (.bool true)], args := [d1, d2, d3] }
  | _ => none }
def typWrapsRow : OpenClaim := { program := "ytjimfbkmfajkcaa", sum := "a0a5799a091c4c4fe2aa7626cb5c223e52711814051f3a13cc68111678023202", func := "calliper/calliperlaw1.TypWraps", spec := "typWraps", apart := false }
def TypWrapsSaid : Prop := typWrapsRow.holds Try.pinned (OpenSpec.ofChange typWrapsSpec)

/-- ITS FALSE NEIGHBOUR: 'it returns false'. Refute it at one input. -/
def typWrapsWrong : ChangeSpec := { name := "typWraps", fn := fun _ => fun
  | [d1, d2, d3] => { results := [.lit (.bool false)], args := [d1, d2, d3] }
  | _ => none }
def TypWrapsWrongFalsely : Prop := typWrapsRow.holds Try.pinned (OpenSpec.ofChange typWrapsWrong)

/-- 'calliperlaw16.ZoneTight': WHATEVER THE INPUT: true; the input reads as it did. -/
def zoneTightSpec : ChangeSpec := { name := "zoneTight", fn := fun _ => fun
  | [d] => { results := [.lit (.bool true)], args := [d] }
  | _ => none }
def zoneTightRow : OpenClaim := { program := "ytjimfbkmfajkcaa", sum := "a0a5799a091c4c4fe2aa7626cb5c223e52711814051f3a13cc68111678023202", func := "calliper/calliperlaw16.ZoneTight", spec := "zoneTight", apart := false }
def ZoneTightSaid : Prop := zoneTightRow.holds Try.pinned (OpenSpec.ofChange zoneTightSpec)

/-- ITS FALSE NEIGHBOUR: 'it returns false'. Refute it at one input. -/
def zoneTightWrong : ChangeSpec := { name := "zoneTight", fn := fun _ => fun
  | [d] => { results := [.lit (.bool false)], args := [d] }
  | _ => none }
def ZoneTightWrongFalsely : Prop := zoneTightRow.holds Try.pinned (OpenSpec.ofChange zoneTightWrong)

/-- 'calliperlaw1.TypNames': WHATEVER THE INPUT: true; the input reads as it did. -/
def typNamesSpec : ChangeSpec := { name := "typNames", fn := fun _ => fun
  | [d] => { results := [.lit (.bool true)], args := [d] }
  | _ => none }
def typNamesRow : OpenClaim := { program := "ytjimfbkmfajkcaa", sum := "a0a5799a091c4c4fe2aa7626cb5c223e52711814051f3a13cc68111678023202", func := "calliper/calliperlaw1.TypNames", spec := "typNames", apart := false }
def TypNamesSaid : Prop := typNamesRow.holds Try.pinned (OpenSpec.ofChange typNamesSpec)

/-- ITS FALSE NEIGHBOUR: 'it returns false'. Refute it at one input. -/
def typNamesWrong : ChangeSpec := { name := "typNames", fn := fun _ => fun
  | [d] => { results := [.lit (.bool false)], args := [d] }
  | _ => none }
def TypNamesWrongFalsely : Prop := typNamesRow.holds Try.pinned (OpenSpec.ofChange typNamesWrong)

/-- 'calliperlaw1.TypSizes': WHATEVER THE INPUT: true; the input reads as it did. -/
def typSizesSpec : ChangeSpec := { name := "typSizes", fn := fun _ => fun
  | [d1, d2] => { results := [.lit (.bool true)], args := [d1, d2] }
  | _ => none }
def typSizesRow : OpenClaim := { program := "ytjimfbkmfajkcaa", sum := "a0a5799a091c4c4fe2aa7626cb5c223e52711814051f3a13cc68111678023202", func := "calliper/calliperlaw1.TypSizes", spec := "typSizes", apart := false }
def TypSizesSaid : Prop := typSizesRow.holds Try.pinned (OpenSpec.ofChange typSizesSpec)

/-- ITS FALSE NEIGHBOUR: 'it returns false'. Refute it at one input. -/
def typSizesWrong : ChangeSpec := { name := "typSizes", fn := fun _ => fun
  | [d1, d2] => { results := [.lit (.bool false)], args := [d1, d2] }
  | _ => none }
def TypSizesWrongFalsely : Prop := typSizesRow.holds Try.pinned (OpenSpec.ofChange typSizesWrong)

/-- 'calliperlaw7.MemoryWraps': WHATEVER THE INPUT: true; the input reads as it did. -/
def memoryWrapsSpec : ChangeSpec := { name := "memoryWraps", fn := fun _ => fun
  | [d1, d2] => { results := [.lit (.bool true)], args := [d1, d2] }
  | _ => none }
def memoryWrapsRow : OpenClaim := { program := "ytjimfbkmfajkcaa", sum := "a0a5799a091c4c4fe2aa7626cb5c223e52711814051f3a13cc68111678023202", func := "calliper/calliperlaw7.MemoryWraps", spec := "memoryWraps", apart := false }
def MemoryWrapsSaid : Prop := memoryWrapsRow.holds Try.pinned (OpenSpec.ofChange memoryWrapsSpec)

/-- ITS FALSE NEIGHBOUR: 'it returns false'. Refute it at one input. -/
def memoryWrapsWrong : ChangeSpec := { name := "memoryWraps", fn := fun _ => fun
  | [d1, d2] => { results := [.lit (.bool false)], args := [d1, d2] }
  | _ => none }
def MemoryWrapsWrongFalsely : Prop := memoryWrapsRow.holds Try.pinned (OpenSpec.ofChange memoryWrapsWrong)

/-- 'calliperlaw16.ZoneNone': WHATEVER THE INPUT: true; the input reads as it did. -/
def zoneNoneSpec : ChangeSpec := { name := "zoneNone", fn := fun _ => fun
  | [d1, d2, d3, d4, d5] => { results := [.lit (.bool true)], args := [d1, d2, d3, d4, d5] }
  | _ => none }
def zoneNoneRow : OpenClaim := { program := "ytjimfbkmfajkcaa", sum := "a0a5799a091c4c4fe2aa7626cb5c223e52711814051f3a13cc68111678023202", func := "calliper/calliperlaw16.ZoneNone", spec := "zoneNone", apart := false }
def ZoneNoneSaid : Prop := zoneNoneRow.holds Try.pinned (OpenSpec.ofChange zoneNoneSpec)

/-- ITS FALSE NEIGHBOUR: 'it returns false'. Refute it at one input. -/
def zoneNoneWrong : ChangeSpec := { name := "zoneNone", fn := fun _ => fun
  | [d1, d2, d3, d4, d5] => { results := [.lit (.bool false)], args := [d1, d2, d3, d4, d5] }
  | _ => none }
def ZoneNoneWrongFalsely : Prop := zoneNoneRow.holds Try.pinned (OpenSpec.ofChange zoneNoneWrong)

/-- 'calliperlaw14.ItvWraps': WHATEVER THE INPUT: true; the input reads as it did. -/
def itvWrapsSpec : ChangeSpec := { name := "itvWraps", fn := fun _ => fun
  | [d1, d2, d3, d4] => { results := [.lit (.bool true)], args := [d1, d2, d3, d4] }
  | _ => none }
def itvWrapsRow : OpenClaim := { program := "ytjimfbkmfajkcaa", sum := "a0a5799a091c4c4fe2aa7626cb5c223e52711814051f3a13cc68111678023202", func := "calliper/calliperlaw14.ItvWraps", spec := "itvWraps", apart := false }
def ItvWrapsSaid : Prop := itvWrapsRow.holds Try.pinned (OpenSpec.ofChange itvWrapsSpec)

/-- ITS FALSE NEIGHBOUR: 'it returns false'. Refute it at one input. -/
def itvWrapsWrong : ChangeSpec := { name := "itvWraps", fn := fun _ => fun
  | [d1, d2, d3, d4] => { results := [.lit (.bool false)], args := [d1, d2, d3, d4] }
  | _ => none }
def ItvWrapsWrongFalsely : Prop := itvWrapsRow.holds Try.pinned (OpenSpec.ofChange itvWrapsWrong)

/-- 'calliperlaw1.TypAll': WHATEVER THE INPUT: true; the input reads as it did. -/
def typAllSpec : ChangeSpec := { name := "typAll", fn := fun _ => fun
  | [d1, d2, d3, d4] => { results := [.lit (.bool true)], args := [d1, d2, d3, d4] }
  | _ => none }
def typAllRow : OpenClaim := { program := "ytjimfbkmfajkcaa", sum := "a0a5799a091c4c4fe2aa7626cb5c223e52711814051f3a13cc68111678023202", func := "calliper/calliperlaw1.TypAll", spec := "typAll", apart := false }
def TypAllSaid : Prop := typAllRow.holds Try.pinned (OpenSpec.ofChange typAllSpec)

/-- ITS FALSE NEIGHBOUR: 'it returns false'. Refute it at one input. -/
def typAllWrong : ChangeSpec := { name := "typAll", fn := fun _ => fun
  | [d1, d2, d3, d4] => { results := [.lit (.bool false)], args := [d1, d2, d3, d4] }
  | _ => none }
def TypAllWrongFalsely : Prop := typAllRow.holds Try.pinned (OpenSpec.ofChange typAllWrong)

/-- 'calliperlaw7.MemoryApart': WHATEVER THE INPUT: true; the input reads as it did. -/
def memoryApartSpec : ChangeSpec := { name := "memoryApart", fn := fun _ => fun
  | [d1, d2, d3, d4] => { results := [.lit (.bool true)], args := [d1, d2, d3, d4] }
  | _ => none }
def memoryApartRow : OpenClaim := { program := "ytjimfbkmfajkcaa", sum := "a0a5799a091c4c4fe2aa7626cb5c223e52711814051f3a13cc68111678023202", func := "calliper/calliperlaw7.MemoryApart", spec := "memoryApart", apart := false }
def MemoryApartSaid : Prop := memoryApartRow.holds Try.pinned (OpenSpec.ofChange memoryApartSpec)

/-- ITS FALSE NEIGHBOUR: 'it returns false'. Refute it at one input. -/
def memoryApartWrong : ChangeSpec := { name := "memoryApart", fn := fun _ => fun
  | [d1, d2, d3, d4] => { results := [.lit (.bool false)], args := [d1, d2, d3, d4] }
  | _ => none }
def MemoryApartWrongFalsely : Prop := memoryApartRow.holds Try.pinned (OpenSpec.ofChange memoryApartWrong)

/-- 'calliperlaw14.ItvNarrow': WHATEVER THE INPUT: true; the input reads as it did. -/
def itvNarrowSpec : ChangeSpec := { name := "itvNarrow", fn := fun _ => fun
  | [d1, d2, d3, d4, d5, d6] => { results := [.lit (.bool true)], args := [d1, d2, d3, d4, d5, d6] }
  | _ => none }
def itvNarrowRow : OpenClaim := { program := "ytjimfbkmfajkcaa", sum := "a0a5799a091c4c4fe2aa7626cb5c223e52711814051f3a13cc68111678023202", func := "calliper/calliperlaw14.ItvNarrow", spec := "itvNarrow", apart := false }
def ItvNarrowSaid : Prop := itvNarrowRow.holds Try.pinned (OpenSpec.ofChange itvNarrowSpec)

/-- ITS FALSE NEIGHBOUR: 'it returns false'. Refute it at one input. -/
def itvNarrowWrong : ChangeSpec := { name := "itvNarrow", fn := fun _ => fun
  | [d1, d2, d3, d4, d5, d6] => { results := [.lit (.bool false)], args := [d1, d2, d3, d4, d5, d6] }
  | _ => none }
def ItvNarrowWrongFalsely : Prop := itvNarrowRow.holds Try.pinned (OpenSpec.ofChange itvNarrowWrong)

/-- 'calliperlaw14.ItvHas': WHATEVER THE INPUT: true; the input reads as it did. -/
def itvHasSpec : ChangeSpec := { name := "itvHas", fn := fun _ => fun
  | [d1, d2, d3, d4, d5] => { results := [.lit (.bool true)], args := [d1, d2, d3, d4, d5] }
  | _ => none }
def itvHasRow : OpenClaim := { program := "ytjimfbkmfajkcaa", sum := "a0a5799a091c4c4fe2aa7626cb5c223e52711814051f3a13cc68111678023202", func := "calliper/calliperlaw14.ItvHas", spec := "itvHas", apart := false }
def ItvHasSaid : Prop := itvHasRow.holds Try.pinned (OpenSpec.ofChange itvHasSpec)

/-- ITS FALSE NEIGHBOUR: 'it returns false'. Refute it at one input. -/
def itvHasWrong : ChangeSpec := { name := "itvHas", fn := fun _ => fun
  | [d1, d2, d3, d4, d5] => { results := [.lit (.bool false)], args := [d1, d2, d3, d4, d5] }
  | _ => none }
def ItvHasWrongFalsely : Prop := itvHasRow.holds Try.pinned (OpenSpec.ofChange itvHasWrong)

/-- 'calliperlaw7.MemoryRuns': WHATEVER THE INPUT: true; the input reads as it did. -/
def memoryRunsSpec : ChangeSpec := { name := "memoryRuns", fn := fun _ => fun
  | [d] => { results := [.lit (.bool true)], args := [d] }
  | _ => none }
def memoryRunsRow : OpenClaim := { program := "ytjimfbkmfajkcaa", sum := "a0a5799a091c4c4fe2aa7626cb5c223e52711814051f3a13cc68111678023202", func := "calliper/calliperlaw7.MemoryRuns", spec := "memoryRuns", apart := false }
def MemoryRunsSaid : Prop := memoryRunsRow.holds Try.pinned (OpenSpec.ofChange memoryRunsSpec)

/-- ITS FALSE NEIGHBOUR: 'it returns false'. Refute it at one input. -/
def memoryRunsWrong : ChangeSpec := { name := "memoryRuns", fn := fun _ => fun
  | [d] => { results := [.lit (.bool false)], args := [d] }
  | _ => none }
def MemoryRunsWrongFalsely : Prop := memoryRunsRow.holds Try.pinned (OpenSpec.ofChange memoryRunsWrong)

/- THE SECOND FORM. 'bulk': how many values and letters a reading holds, each counted each time it is reached (what is shared counts as often as it is met; a slice's spare places count too). A statement '..UptoSaid' is the law's where the arguments, and the package variables that the reading takes, are together of bulk at most 1048576: NARROWER than '..Said'. Prove '..Said' where nothing that the law and all that it calls make is longer than what came in: it says more and counts as full. Else prove '..UptoSaid'. A law counts once. -/
mutual
def uptoBulk {H : Type} : DataW H → Nat
  | .lit (.string bytes) => bytes.length + 1
  | .lit _ => 1
  | .nil => 1
  | .ptr d => uptoBulk d + 1
  | .slice elems spare => uptoBulkAll elems + uptoBulkAll spare + 1
  | .agg parts => uptoBulkAll parts + 1
  | .iface _ d => uptoBulk d + 1
  | .map entries => uptoBulkEntries entries + 1
  | .held _ => 1
def uptoBulkAll {H : Type} : List (DataW H) → Nat
  | [] => 0
  | d :: r => uptoBulk d + uptoBulkAll r
def uptoBulkEntries {H : Type} : List (Lit × DataW H) → Nat
  | [] => 0
  | x :: r => uptoBulkEntry x + uptoBulkEntries r
def uptoBulkEntry {H : Type} : Lit × DataW H → Nat
  | (.string bytes, d) => bytes.length + uptoBulk d + 1
  | (_, d) => uptoBulk d + 1
 end
def uptoSmall : (H : Type) → List (DataW H) → Bool := fun _ ds => decide (uptoBulkAll ds ≤ 1048576)
def OpenSpec.upto (s : _root_.Go.ChangeSpec) : _root_.Go.OpenSpec := { _root_.Go.OpenSpec.ofChange s with cond := some uptoSmall }

/-- 'calliperlaw1.TypWraps', WHERE WHAT IT READS IS OF BULK AT MOST 1048576: true; the input reads as it did. -/
def typWrapsUptoRow : OpenClaim := { program := "ytjimfbkmfajkcaa", sum := "a0a5799a091c4c4fe2aa7626cb5c223e52711814051f3a13cc68111678023202", func := "calliper/calliperlaw1.TypWraps", spec := "typWraps", apart := false, narrowed := true }
def TypWrapsUptoSaid : Prop := typWrapsUptoRow.holds Try.pinned (OpenSpec.upto typWrapsSpec)

/-- 'calliperlaw16.ZoneTight', WHERE WHAT IT READS IS OF BULK AT MOST 1048576: true; the input reads as it did. -/
def zoneTightUptoRow : OpenClaim := { program := "ytjimfbkmfajkcaa", sum := "a0a5799a091c4c4fe2aa7626cb5c223e52711814051f3a13cc68111678023202", func := "calliper/calliperlaw16.ZoneTight", spec := "zoneTight", apart := false, narrowed := true }
def ZoneTightUptoSaid : Prop := zoneTightUptoRow.holds Try.pinned (OpenSpec.upto zoneTightSpec)

/-- 'calliperlaw1.TypNames', WHERE WHAT IT READS IS OF BULK AT MOST 1048576: true; the input reads as it did. -/
def typNamesUptoRow : OpenClaim := { program := "ytjimfbkmfajkcaa", sum := "a0a5799a091c4c4fe2aa7626cb5c223e52711814051f3a13cc68111678023202", func := "calliper/calliperlaw1.TypNames", spec := "typNames", apart := false, narrowed := true }
def TypNamesUptoSaid : Prop := typNamesUptoRow.holds Try.pinned (OpenSpec.upto typNamesSpec)

/-- 'calliperlaw1.TypSizes', WHERE WHAT IT READS IS OF BULK AT MOST 1048576: true; the input reads as it did. -/
def typSizesUptoRow : OpenClaim := { program := "ytjimfbkmfajkcaa", sum := "a0a5799a091c4c4fe2aa7626cb5c223e52711814051f3a13cc68111678023202", func := "calliper/calliperlaw1.TypSizes", spec := "typSizes", apart := false, narrowed := true }
def TypSizesUptoSaid : Prop := typSizesUptoRow.holds Try.pinned (OpenSpec.upto typSizesSpec)

/-- 'calliperlaw7.MemoryWraps', WHERE WHAT IT READS IS OF BULK AT MOST 1048576: true; the input reads as it did. -/
def memoryWrapsUptoRow : OpenClaim := { program := "ytjimfbkmfajkcaa", sum := "a0a5799a091c4c4fe2aa7626cb5c223e52711814051f3a13cc68111678023202", func := "calliper/calliperlaw7.MemoryWraps", spec := "memoryWraps", apart := false, narrowed := true }
def MemoryWrapsUptoSaid : Prop := memoryWrapsUptoRow.holds Try.pinned (OpenSpec.upto memoryWrapsSpec)

/-- 'calliperlaw16.ZoneNone', WHERE WHAT IT READS IS OF BULK AT MOST 1048576: true; the input reads as it did. -/
def zoneNoneUptoRow : OpenClaim := { program := "ytjimfbkmfajkcaa", sum := "a0a5799a091c4c4fe2aa7626cb5c223e52711814051f3a13cc68111678023202", func := "calliper/calliperlaw16.ZoneNone", spec := "zoneNone", apart := false, narrowed := true }
def ZoneNoneUptoSaid : Prop := zoneNoneUptoRow.holds Try.pinned (OpenSpec.upto zoneNoneSpec)

/-- 'calliperlaw14.ItvWraps', WHERE WHAT IT READS IS OF BULK AT MOST 1048576: true; the input reads as it did. -/
def itvWrapsUptoRow : OpenClaim := { program := "ytjimfbkmfajkcaa", sum := "a0a5799a091c4c4fe2aa7626cb5c223e52711814051f3a13cc68111678023202", func := "calliper/calliperlaw14.ItvWraps", spec := "itvWraps", apart := false, narrowed := true }
def ItvWrapsUptoSaid : Prop := itvWrapsUptoRow.holds Try.pinned (OpenSpec.upto itvWrapsSpec)

/-- 'calliperlaw1.TypAll', WHERE WHAT IT READS IS OF BULK AT MOST 1048576: true; the input reads as it did. -/
def typAllUptoRow : OpenClaim := { program := "ytjimfbkmfajkcaa", sum := "a0a5799a091c4c4fe2aa7626cb5c223e52711814051f3a13cc68111678023202", func := "calliper/calliperlaw1.TypAll", spec := "typAll", apart := false, narrowed := true }
def TypAllUptoSaid : Prop := typAllUptoRow.holds Try.pinned (OpenSpec.upto typAllSpec)

/-- 'calliperlaw7.MemoryApart', WHERE WHAT IT READS IS OF BULK AT MOST 1048576: true; the input reads as it did. -/
def memoryApartUptoRow : OpenClaim := { program := "ytjimfbkmfajkcaa", sum := "a0a5799a091c4c4fe2aa7626cb5c223e52711814051f3a13cc68111678023202", func := "calliper/calliperlaw7.MemoryApart", spec := "memoryApart", apart := false, narrowed := true }
def MemoryApartUptoSaid : Prop := memoryApartUptoRow.holds Try.pinned (OpenSpec.upto memoryApartSpec)

/-- 'calliperlaw14.ItvNarrow', WHERE WHAT IT READS IS OF BULK AT MOST 1048576: true; the input reads as it did. -/
def itvNarrowUptoRow : OpenClaim := { program := "ytjimfbkmfajkcaa", sum := "a0a5799a091c4c4fe2aa7626cb5c223e52711814051f3a13cc68111678023202", func := "calliper/calliperlaw14.ItvNarrow", spec := "itvNarrow", apart := false, narrowed := true }
def ItvNarrowUptoSaid : Prop := itvNarrowUptoRow.holds Try.pinned (OpenSpec.upto itvNarrowSpec)

/-- 'calliperlaw14.ItvHas', WHERE WHAT IT READS IS OF BULK AT MOST 1048576: true; the input reads as it did. -/
def itvHasUptoRow : OpenClaim := { program := "ytjimfbkmfajkcaa", sum := "a0a5799a091c4c4fe2aa7626cb5c223e52711814051f3a13cc68111678023202", func := "calliper/calliperlaw14.ItvHas", spec := "itvHas", apart := false, narrowed := true }
def ItvHasUptoSaid : Prop := itvHasUptoRow.holds Try.pinned (OpenSpec.upto itvHasSpec)

/-- 'calliperlaw7.MemoryRuns', WHERE WHAT IT READS IS OF BULK AT MOST 1048576: true; the input reads as it did. -/
def memoryRunsUptoRow : OpenClaim := { program := "ytjimfbkmfajkcaa", sum := "a0a5799a091c4c4fe2aa7626cb5c223e52711814051f3a13cc68111678023202", func := "calliper/calliperlaw7.MemoryRuns", spec := "memoryRuns", apart := false, narrowed := true }
def MemoryRunsUptoSaid : Prop := memoryRunsUptoRow.holds Try.pinned (OpenSpec.upto memoryRunsSpec)

end Rows
end Go.Proofs.Ytjimfbkmfajkcaa
