/- lex.Number, lex.number: walks. -/
import Derived.Test.YtnnhdkchdjddkaaLexVal
namespace Go.Proofs.Ytnnhdkchdjddkaa.C
open Go.RowKit
set_option linter.unusedSimpArgs false
set_option linter.unusedVariables false
end Go.Proofs.Ytnnhdkchdjddkaa.C
