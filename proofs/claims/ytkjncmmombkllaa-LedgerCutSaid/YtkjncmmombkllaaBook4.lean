/- siskinref20.Find. -/
import Derived.Test.YtkjncmmombkllaaBook3
import Derived.Test.YtkjncmmombkllaaBase
namespace Go.Proofs.Ytkjncmmombkllaa
open Go.RowKit
end Go.Proofs.Ytkjncmmombkllaa
