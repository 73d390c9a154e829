/- lex.Number, lex.number: walks. -/
import Derived.Test.YtlhenpocaagbjaaLexVal
namespace Go.Proofs.Ytlhenpocaagbjaa.C
open Go.RowKit
set_option linter.unusedSimpArgs false
set_option linter.unusedVariables false
end Go.Proofs.Ytlhenpocaagbjaa.C
