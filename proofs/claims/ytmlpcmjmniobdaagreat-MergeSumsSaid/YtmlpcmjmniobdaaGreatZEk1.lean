/-
 lives():part 1.
-/
import Derived.Test.YtmlpcmjmniobdaaGreatZEk
import Derived.Test.YtmlpcmjmniobdaaGreatProg
import Derived.KernelRfl
set_option linter.all false
namespace Go.Proofs.YtmlpcmjmniobdaaGreat
open Go.Proofs.Tryz
open Go Go.Ev Go.RowKit
set_option maxRecDepth 1000000
theorem part1:partB prog (run prog orc 3000) 10 0 7 st0 ks1 os1 nx1=true:=by kernel_rfl
end Go.Proofs.YtmlpcmjmniobdaaGreat
