/-
  What all the Paths rows use: the walks of sane and of Check, an empty case.
-/
import Derived.Test.YthgppaiiapkdjaaDoorMbp
import Derived.Test.YthgppaiiapkdjaaDoorMbn
import Derived.Test.YthgppaiiapkdjaaDoorMbj
namespace Go.Proofs.YthgppaiiapkdjaaDoor
open Go.RowKit

theorem check_all : CheckOk := fun cs jcs c W h hG => pa_check cs jcs c W h hG
theorem sane_all : SaneOk := fun W hG => lw_sane check_all W hG
def zCaseC : Array Value := #[.int .i64 0, .int .i64 0, .int .i64 0, .slice none 0 0, .slice none 0 0, .slice none 0 0, .int .i64 0, .int .i64 0, .int .i64 0, .int .i64 0, .int .i64 0, .int .i64 0, .int .i64 0, .slice none 0 0, .int .i64 0]
end Go.Proofs.YthgppaiiapkdjaaDoor
