/- lex.small, digit, within, Lex's test of a remark; lex.run at each of them: walks. -/
import Derived.Test.YtnnhdkchdjddkaaChecked
import Derived.Test.YtnnhdkchdjddkaaLexP
import Derived.WalkKit
import Derived.Lib.Hide
namespace Go.Proofs.Ytnnhdkchdjddkaa.C
open Go.RowKit
set_option linter.unusedSimpArgs false
set_option linter.unusedVariables false
theorem chI_get (s : ByteArray) (i : Nat) (h : i < s.size) : chI s.data.toList i = ((s[i]'h).toNat : Int) := by
  unfold chI
  obtain ⟨⟨l⟩⟩ := s
  have hl : i < l.length := h
  simp [List.getD, hl]
  rfl
end Go.Proofs.Ytnnhdkchdjddkaa.C
