/- errors.Is at the lexer's errors; lex.told: walks. -/
import Derived.Test.YtnnhdkchdjddkaaWords
import Derived.Test.YtnnhdkchdjddkaaChecked
import Derived.WalkKit
import Derived.LaidEql
import Derived.Stop.Asserts
import Derived.RowKitTokens
import Derived.Lib.Hide
namespace Go.Proofs.Ytnnhdkchdjddkaa.C
open Go.RowKit Go.Extern.Stop Go.Stop Go.Extern
set_option linter.unusedSimpArgs false
set_option linter.unusedVariables false
end Go.Proofs.Ytnnhdkchdjddkaa.C
