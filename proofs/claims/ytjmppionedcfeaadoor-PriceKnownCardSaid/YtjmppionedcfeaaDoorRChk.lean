/-
  Check of the reference.
-/
import Derived.Test.YtjmppionedcfeaaDoorChk
set_option linter.unusedVariables false
set_option linter.unusedSimpArgs false
namespace Go.Proofs.YtjmppionedcfeaaDoor
open Go.RowKit

end Go.Proofs.YtjmppionedcfeaaDoor
