/-
 lives():part 4.
-/
import Derived.Test.YtmlpcmjmniobdaaGreatZEk
import Derived.Test.YtmlpcmjmniobdaaGreatProg
import Derived.KernelRfl
set_option linter.all false
namespace Go.Proofs.YtmlpcmjmniobdaaGreat
open Go.Proofs.Tryz
open Go Go.Ev Go.RowKit
set_option maxRecDepth 1000000
theorem part4:partB prog (run prog orc 3000) 10 9 1 (mkS ks3 os3 nx3) ks4 os4 nx4=true:=by kernel_rfl
end Go.Proofs.YtmlpcmjmniobdaaGreat
