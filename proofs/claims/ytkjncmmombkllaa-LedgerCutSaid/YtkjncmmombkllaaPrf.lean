import Derived.Test.YtkjncmmombkllaaPrs
import Derived.Test.YtkjncmmombkllaaRfs
import Derived.Test.YtkjncmmombkllaaBase
import Derived.Deep.RegionLaw
namespace Go.Proofs.Ytkjncmmombkllaa
open Go.RowKit
section
variable {rb g gx : Nat} {w W W' : World} {R R' : RdS} {cs : Array Value}
end
theorem least_z {R : RdS} {m : Int} (h : (R.num m).1 = 0) : R.least m = (0, (R.num m).2.fail 3) := by unfold RdS.least; rw [if_pos h]
theorem least_n {R : RdS} {m : Int} (h : (R.num m).1 ≠ 0) : R.least m = R.num m := by unfold RdS.least; rw [if_neg h]

end Go.Proofs.Ytkjncmmombkllaa
