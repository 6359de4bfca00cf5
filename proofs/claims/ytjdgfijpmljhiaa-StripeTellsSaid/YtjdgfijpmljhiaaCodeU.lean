/- Contract of chapter 3: the reference's Good. -/
import Derived.Test.YtjdgfijpmljhiaaCodeG
import Derived.Test.YtjdgfijpmljhiaaCoT
namespace Go.Proofs.Ytjdgfijpmljhiaa
open Go.RowKit
set_option linter.unusedVariables false

end Go.Proofs.Ytjdgfijpmljhiaa
