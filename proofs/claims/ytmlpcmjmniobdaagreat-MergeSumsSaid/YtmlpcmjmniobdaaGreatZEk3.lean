/-
 lives():part 3.
-/
import Derived.Test.YtmlpcmjmniobdaaGreatZEk
import Derived.Test.YtmlpcmjmniobdaaGreatProg
import Derived.KernelRfl
set_option linter.all false
namespace Go.Proofs.YtmlpcmjmniobdaaGreat
open Go.Proofs.Tryz
open Go Go.Ev Go.RowKit
set_option maxRecDepth 1000000
theorem part3:partB prog (run prog orc 3000) 10 8 1 (mkS ks2 os2 nx2) ks3 os3 nx3=true:=by kernel_rfl
end Go.Proofs.YtmlpcmjmniobdaaGreat
