/- siskinref17.Field. -/
import Derived.Test.YtkjncmmombkllaaRds
import Derived.Test.YtkjncmmombkllaaRdA
import Derived.Test.YtkjncmmombkllaaR17
import Derived.Test.YtkjncmmombkllaaPrp
namespace Go.Proofs.Ytkjncmmombkllaa
open Go.RowKit
end Go.Proofs.Ytkjncmmombkllaa
