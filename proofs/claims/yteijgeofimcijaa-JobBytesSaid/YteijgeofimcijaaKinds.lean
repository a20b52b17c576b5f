/- The kinds of this program's parameter types. -/
import Derived.Test.YteijgeofimcijaaProg
import Derived.Test.YteijgeofimcijaaOpen
import Derived.KernelRfl
namespace Go.Proofs.Yteijgeofimcijaa
open Go.RowKit

theorem Try.opensStrs : Opens Try.prog 22 Kd.str.slice (fun l => (∀ y ∈ l, y.size ≤ 140737488351232) ∧ l.length * 16 ≤ 140737488351232) := opens_slice Try.underlying22 (by kernel_rfl) (by kernel_rfl) (by decide) (by decide) (opens_str Try.underlying9)

end Go.Proofs.Yteijgeofimcijaa
