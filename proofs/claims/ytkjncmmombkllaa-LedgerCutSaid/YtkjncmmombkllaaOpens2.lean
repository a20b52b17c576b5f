import Derived.Test.YtkjncmmombkllaaOpensB
import Derived.Test.YtkjncmmombkllaaBase
import Derived.KernelRfl
import Derived.Test.YtkjncmmombkllaaRecS
/- An argument of bytes, as a law gets it. No Go program in sight. -/
namespace Go.Proofs.Ytkjncmmombkllaa
open Go.RowKit

end Go.Proofs.Ytkjncmmombkllaa
/- An argument of records, as a law gets it. No Go program in sight. -/
namespace Go.Proofs.Ytkjncmmombkllaa
open Go.RowKit

theorem Try.opensRecs : Opens Try.prog 23 Kd.recK.slice (fun l => (∀ y ∈ l, okRec y) ∧ l.length * 72 ≤ 140737488351232) := opens_slice Try.underlying23 (by kernel_rfl) (by kernel_rfl) (by decide) (by decide) Try.opensRec
end Go.Proofs.Ytkjncmmombkllaa
