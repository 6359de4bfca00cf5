/- Contract of event.WrongBatch: it returns what the plain laws say. -/
import Derived.Test.YtjdgfijpmljhiaaEventA
namespace Go.Proofs.Ytjdgfijpmljhiaa
open Go.RowKit
set_option linter.unusedVariables false
def fVal (f : Int × Int) : Value := .agg #[.int .i64 f.1, .int .i64 f.2]

end Go.Proofs.Ytjdgfijpmljhiaa
