/- Functions of Go's library that the lexer calls (strings.IndexByte, strings.CutSuffix, slices.Index and slices.Contains at []string): walks. -/
import Derived.Test.YtnnhdkchdjddkaaWords
import Derived.Test.YtnnhdkchdjddkaaChecked
import Derived.Lib.Strings
import Derived.Lib.Slices
import Derived.Lib.SlicesS
import Derived.Lib.Walk
import Derived.Lib.Bytealg
namespace Go.Proofs.Ytnnhdkchdjddkaa.C
open Go.RowKit
set_option linter.unusedSimpArgs false
set_option linter.unusedVariables false
end Go.Proofs.Ytnnhdkchdjddkaa.C
