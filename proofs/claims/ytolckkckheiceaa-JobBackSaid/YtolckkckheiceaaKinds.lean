/- The kinds of this program's parameter types. -/
import Derived.Test.YtolckkckheiceaaProg
import Derived.Test.YtolckkckheiceaaOpen
import Derived.KernelRfl
namespace Go.Proofs.Ytolckkckheiceaa
open Go.RowKit

theorem Try.opensStrs : Opens Try.prog 22 Kd.str.slice (fun l => (∀ y ∈ l, y.size ≤ 140737488351232) ∧ l.length * 16 ≤ 140737488351232) := opens_slice Try.underlying22 (by kernel_rfl) (by kernel_rfl) (by decide) (by decide) (opens_str Try.underlying9)

end Go.Proofs.Ytolckkckheiceaa
