import Derived.Test.YtkjncmmombkllaaGreatOpensB
import Derived.Test.YtkjncmmombkllaaGreatBase
import Derived.KernelRfl
import Derived.Test.YtkjncmmombkllaaGreatRecS
/- An argument of bytes, as a law gets it. No Go program in sight. -/
namespace Go.Proofs.YtkjncmmombkllaaGreat
open Go.RowKit

end Go.Proofs.YtkjncmmombkllaaGreat
/- An argument of records, as a law gets it. No Go program in sight. -/
namespace Go.Proofs.YtkjncmmombkllaaGreat
open Go.RowKit

theorem Tryz.opensRecs : Opens Tryz.prog 67 Kd.recK.slice (fun l => (∀ y ∈ l, okRec y) ∧ l.length * 72 ≤ 140737488351232) := opens_slice Tryz.underlying67 (by kernel_rfl) (by kernel_rfl) (by decide) (by decide) Tryz.opensRec
end Go.Proofs.YtkjncmmombkllaaGreat
