/- lex.one and Lex's skip: walks. -/
import Derived.Test.YtnnhdkchdjddkaaLexNum
import Derived.Deep.RegionHeld3
namespace Go.Proofs.Ytnnhdkchdjddkaa.C
open Go.RowKit
set_option linter.unusedSimpArgs false
set_option linter.unusedVariables false
end Go.Proofs.Ytnnhdkchdjddkaa.C
