/- What is proved: a part of the way to the statement: AbY. No conditions. -/
import Derived.Test.YtneeejngeoaaoaaQ5
import Derived.WalkKit
import Derived.OpenShut
set_option linter.unusedVariables false
set_option linter.unusedSimpArgs false
namespace Go.Ab
open Go.RowKit (Below)
open Go.ChangeShapes Go.WideShapes Go.ChangeAt Go.RowKit
section
variable{HT:Type}{enc:TypeId×Value->HT}{P:Program}{W:World}
end
end Go.Ab
