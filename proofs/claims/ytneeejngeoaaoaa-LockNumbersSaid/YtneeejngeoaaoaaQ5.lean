/- What is proved: a part of the way to the statement: AbX. No conditions. -/
import Derived.Test.YtneeejngeoaaoaaQ2
import Derived.Carry
import Derived.SizedLaws
import Derived.JoinedOf
import Derived.ProofKit
import Derived.Test.YtneeejngeoaaoaaQ4
set_option linter.unusedVariables false
set_option linter.unusedSimpArgs false
namespace Go.Ab
open Go.RowKit (Below)
def reach:Nat:=140737488351232
section
variable{HT:Type}{enc:TypeId×Value->HT}{P:Program}{W:World}
end
end Go.Ab
