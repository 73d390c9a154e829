/-
  No cell of these rows narrows 'for every input' (looked for: loops, veiled, ifaces, maps, wideKeys, modest, calm, conditions, laid).
  DERIVED. THE GIVEN ROWS OF THIS SEAT. 5 by the template 'for every input the law returns true; each argument reads behind the call as it read before'; 0 by the template 'total and deterministic' (their statements: YtlhenpocaagbjaaTotals.lean).
  GIVEN WITH THE SEED: the statements are not yours to turn. If you find one false, say at which input.
  Laid BY PROGRAM, IN A SANDBOX (cutbox-rows.mjs): the forced cells as the released guide's own fill.sh prints them over the translation 5f1302e78c343fe1… (all of the seat's roots in one cut). By AI agents, Wed Nov 11 2026. No macro, syntax, notation, axiom, sorry.
-/
import Derived.Test.YtlhenpocaagbjaaChecked
import GoSem.Claim
import GoSem.ClaimJoined
import GoSem.ClaimMapViews
import Derived.JoinedTies
import Derived.KernelRfl
namespace Go.Proofs.Ytlhenpocaagbjaa
/- THE CELL 'sum', in the pinned program and in every row, IS THE sha256 OF THE DUMP (.gsa) THAT YtlhenpocaagbjaaProg.lean LOADS. Nothing in Lean hashes anything: it is a label: what it is worth is what the hold of that sum in a sandbox is worth. -/
noncomputable def Try.pinned : Pinned := { name := "ytlhenpocaagbjaa", sum := "5f1302e78c343fe1d3964df6864cb20fe3f0ff3d6ec039adfb524937145b446e", checked := Try.checked }
namespace Rows
def none {H : Type} : Left H := { results := [], args := [] }

/-- 'calliperlaw8.EvalAll': WHATEVER THE INPUT: true; the input reads as it did. -/
def evalAllSpec : ChangeSpec := { name := "evalAll", fn := fun _ => fun
  | [d1, d2, d3, d4, d5, d6] => { results := [.lit (.bool true)], args := [d1, d2, d3, d4, d5, d6] }
  | _ => none }
def evalAllRow : OpenClaim := { program := "ytlhenpocaagbjaa", sum := "5f1302e78c343fe1d3964df6864cb20fe3f0ff3d6ec039adfb524937145b446e", func := "calliper/calliperlaw8.EvalAll", spec := "evalAll", unfollowed := true, recurses := true, apart := false }
def EvalAllSaid : Prop := evalAllRow.holds Try.pinned (OpenSpec.ofChange evalAllSpec)

/-- ITS FALSE NEIGHBOUR: 'it returns false'. Refute it at one input. -/
def evalAllWrong : ChangeSpec := { name := "evalAll", fn := fun _ => fun
  | [d1, d2, d3, d4, d5, d6] => { results := [.lit (.bool false)], args := [d1, d2, d3, d4, d5, d6] }
  | _ => none }
def EvalAllWrongFalsely : Prop := evalAllRow.holds Try.pinned (OpenSpec.ofChange evalAllWrong)

/-- 'calliperlaw8.EvalOld': WHATEVER THE INPUT: true; the input reads as it did. -/
def evalOldSpec : ChangeSpec := { name := "evalOld", fn := fun _ => fun
  | [d1, d2, d3] => { results := [.lit (.bool true)], args := [d1, d2, d3] }
  | _ => none }
def evalOldRow : OpenClaim := { program := "ytlhenpocaagbjaa", sum := "5f1302e78c343fe1d3964df6864cb20fe3f0ff3d6ec039adfb524937145b446e", func := "calliper/calliperlaw8.EvalOld", spec := "evalOld", unfollowed := true, recurses := true, apart := false }
def EvalOldSaid : Prop := evalOldRow.holds Try.pinned (OpenSpec.ofChange evalOldSpec)

/-- ITS FALSE NEIGHBOUR: 'it returns false'. Refute it at one input. -/
def evalOldWrong : ChangeSpec := { name := "evalOld", fn := fun _ => fun
  | [d1, d2, d3] => { results := [.lit (.bool false)], args := [d1, d2, d3] }
  | _ => none }
def EvalOldWrongFalsely : Prop := evalOldRow.holds Try.pinned (OpenSpec.ofChange evalOldWrong)

/-- 'calliperlaw8.EvalTests': WHATEVER THE INPUT: true; the input reads as it did. -/
def evalTestsSpec : ChangeSpec := { name := "evalTests", fn := fun _ => fun
  | [d1, d2, d3, d4] => { results := [.lit (.bool true)], args := [d1, d2, d3, d4] }
  | _ => none }
def evalTestsRow : OpenClaim := { program := "ytlhenpocaagbjaa", sum := "5f1302e78c343fe1d3964df6864cb20fe3f0ff3d6ec039adfb524937145b446e", func := "calliper/calliperlaw8.EvalTests", spec := "evalTests", unfollowed := true, recurses := true, apart := false }
def EvalTestsSaid : Prop := evalTestsRow.holds Try.pinned (OpenSpec.ofChange evalTestsSpec)

/-- ITS FALSE NEIGHBOUR: 'it returns false'. Refute it at one input. -/
def evalTestsWrong : ChangeSpec := { name := "evalTests", fn := fun _ => fun
  | [d1, d2, d3, d4] => { results := [.lit (.bool false)], args := [d1, d2, d3, d4] }
  | _ => none }
def EvalTestsWrongFalsely : Prop := evalTestsRow.holds Try.pinned (OpenSpec.ofChange evalTestsWrong)

/-- 'calliperlaw8.EvalShort': WHATEVER THE INPUT: true; the input reads as it did. -/
def evalShortSpec : ChangeSpec := { name := "evalShort", fn := fun _ => fun
  | [d1, d2] => { results := [.lit (.bool true)], args := [d1, d2] }
  | _ => none }
def evalShortRow : OpenClaim := { program := "ytlhenpocaagbjaa", sum := "5f1302e78c343fe1d3964df6864cb20fe3f0ff3d6ec039adfb524937145b446e", func := "calliper/calliperlaw8.EvalShort", spec := "evalShort", unfollowed := true, recurses := true, apart := false }
def EvalShortSaid : Prop := evalShortRow.holds Try.pinned (OpenSpec.ofChange evalShortSpec)

/-- ITS FALSE NEIGHBOUR: 'it returns false'. Refute it at one input. -/
def evalShortWrong : ChangeSpec := { name := "evalShort", fn := fun _ => fun
  | [d1, d2] => { results := [.lit (.bool false)], args := [d1, d2] }
  | _ => none }
def EvalShortWrongFalsely : Prop := evalShortRow.holds Try.pinned (OpenSpec.ofChange evalShortWrong)

/-- 'calliperlaw8.EvalMixed': WHATEVER THE INPUT: true; the input reads as it did. -/
def evalMixedSpec : ChangeSpec := { name := "evalMixed", fn := fun _ => fun
  | [d1, d2, d3] => { results := [.lit (.bool true)], args := [d1, d2, d3] }
  | _ => none }
def evalMixedRow : OpenClaim := { program := "ytlhenpocaagbjaa", sum := "5f1302e78c343fe1d3964df6864cb20fe3f0ff3d6ec039adfb524937145b446e", func := "calliper/calliperlaw8.EvalMixed", spec := "evalMixed", unfollowed := true, recurses := true, apart := false }
def EvalMixedSaid : Prop := evalMixedRow.holds Try.pinned (OpenSpec.ofChange evalMixedSpec)

/-- ITS FALSE NEIGHBOUR: 'it returns false'. Refute it at one input. -/
def evalMixedWrong : ChangeSpec := { name := "evalMixed", fn := fun _ => fun
  | [d1, d2, d3] => { results := [.lit (.bool false)], args := [d1, d2, d3] }
  | _ => none }
def EvalMixedWrongFalsely : Prop := evalMixedRow.holds Try.pinned (OpenSpec.ofChange evalMixedWrong)

/- THE SECOND FORM. 'bulk': how many values and letters a reading holds, each counted each time it is reached (what is shared counts as often as it is met; a slice's spare places count too). A statement '..UptoSaid' is the law's where the arguments, and the package variables that the reading takes, are together of bulk at most 1048576: NARROWER than '..Said'. Prove '..Said' where nothing that the law and all that it calls make is longer than what came in: it says more and counts as full. Else prove '..UptoSaid'. A law counts once. -/
mutual
def uptoBulk {H : Type} : DataW H → Nat
  | .lit (.string bytes) => bytes.length + 1
  | .lit _ => 1
  | .nil => 1
  | .ptr d => uptoBulk d + 1
  | .slice elems spare => uptoBulkAll elems + uptoBulkAll spare + 1
  | .agg parts => uptoBulkAll parts + 1
  | .iface _ d => uptoBulk d + 1
  | .map entries => uptoBulkEntries entries + 1
  | .held _ => 1
def uptoBulkAll {H : Type} : List (DataW H) → Nat
  | [] => 0
  | d :: r => uptoBulk d + uptoBulkAll r
def uptoBulkEntries {H : Type} : List (Lit × DataW H) → Nat
  | [] => 0
  | x :: r => uptoBulkEntry x + uptoBulkEntries r
def uptoBulkEntry {H : Type} : Lit × DataW H → Nat
  | (.string bytes, d) => bytes.length + uptoBulk d + 1
  | (_, d) => uptoBulk d + 1
 end
def uptoSmall : (H : Type) → List (DataW H) → Bool := fun _ ds => decide (uptoBulkAll ds ≤ 1048576)
def OpenSpec.upto (s : _root_.Go.ChangeSpec) : _root_.Go.OpenSpec := { _root_.Go.OpenSpec.ofChange s with cond := some uptoSmall }

/-- 'calliperlaw8.EvalAll', WHERE WHAT IT READS IS OF BULK AT MOST 1048576: true; the input reads as it did. -/
def evalAllUptoRow : OpenClaim := { program := "ytlhenpocaagbjaa", sum := "5f1302e78c343fe1d3964df6864cb20fe3f0ff3d6ec039adfb524937145b446e", func := "calliper/calliperlaw8.EvalAll", spec := "evalAll", unfollowed := true, recurses := true, apart := false, narrowed := true }
def EvalAllUptoSaid : Prop := evalAllUptoRow.holds Try.pinned (OpenSpec.upto evalAllSpec)

/-- 'calliperlaw8.EvalOld', WHERE WHAT IT READS IS OF BULK AT MOST 1048576: true; the input reads as it did. -/
def evalOldUptoRow : OpenClaim := { program := "ytlhenpocaagbjaa", sum := "5f1302e78c343fe1d3964df6864cb20fe3f0ff3d6ec039adfb524937145b446e", func := "calliper/calliperlaw8.EvalOld", spec := "evalOld", unfollowed := true, recurses := true, apart := false, narrowed := true }
def EvalOldUptoSaid : Prop := evalOldUptoRow.holds Try.pinned (OpenSpec.upto evalOldSpec)

/-- 'calliperlaw8.EvalTests', WHERE WHAT IT READS IS OF BULK AT MOST 1048576: true; the input reads as it did. -/
def evalTestsUptoRow : OpenClaim := { program := "ytlhenpocaagbjaa", sum := "5f1302e78c343fe1d3964df6864cb20fe3f0ff3d6ec039adfb524937145b446e", func := "calliper/calliperlaw8.EvalTests", spec := "evalTests", unfollowed := true, recurses := true, apart := false, narrowed := true }
def EvalTestsUptoSaid : Prop := evalTestsUptoRow.holds Try.pinned (OpenSpec.upto evalTestsSpec)

/-- 'calliperlaw8.EvalShort', WHERE WHAT IT READS IS OF BULK AT MOST 1048576: true; the input reads as it did. -/
def evalShortUptoRow : OpenClaim := { program := "ytlhenpocaagbjaa", sum := "5f1302e78c343fe1d3964df6864cb20fe3f0ff3d6ec039adfb524937145b446e", func := "calliper/calliperlaw8.EvalShort", spec := "evalShort", unfollowed := true, recurses := true, apart := false, narrowed := true }
def EvalShortUptoSaid : Prop := evalShortUptoRow.holds Try.pinned (OpenSpec.upto evalShortSpec)

/-- 'calliperlaw8.EvalMixed', WHERE WHAT IT READS IS OF BULK AT MOST 1048576: true; the input reads as it did. -/
def evalMixedUptoRow : OpenClaim := { program := "ytlhenpocaagbjaa", sum := "5f1302e78c343fe1d3964df6864cb20fe3f0ff3d6ec039adfb524937145b446e", func := "calliper/calliperlaw8.EvalMixed", spec := "evalMixed", unfollowed := true, recurses := true, apart := false, narrowed := true }
def EvalMixedUptoSaid : Prop := evalMixedUptoRow.holds Try.pinned (OpenSpec.upto evalMixedSpec)

end Rows
end Go.Proofs.Ytlhenpocaagbjaa
