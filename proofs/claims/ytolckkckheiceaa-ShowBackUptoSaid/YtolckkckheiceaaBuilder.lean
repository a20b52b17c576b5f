/- strings.Builder, of the call's own. -/
import Derived.Test.YtolckkckheiceaaProg
import Derived.Test.YtolckkckheiceaaLib
import Derived.Lib.Builder
import Derived.Lib.AppendStr
import Derived.Lib.UnsafeStr
import Derived.Laws.Externs
import Derived.RegionTactic
namespace Go.Proofs
open Go.RowKit
namespace Ytolckkckheiceaa
theorem info_u8 : (Try.prog.info? 5).map (fun i => (i.zero, i.size, i.bytes)) = some (some (.int .u8 0), 1, 1) := by kernel_rfl

/-- Whatever is no row of bytes lies as it lay, but for block b. -/
def Keeps8 (b : Nat) (w w' : World) : Prop := w.heap.size ≤ w'.heap.size ∧ ∀ k, k < w.heap.size → k ≠ b → (∀ cs t fr, w.heap[k]? = some (.cells cs t fr) → t ≠ 5) → w'.heap[k]? = w.heap[k]?
theorem bld_none (W : World) (q : Option Addr) : (Builtin.unsafeString_ #[286, 3] 9 #[.pointer q, .int .i64 0]).run Try.prog W = .ok (.string .empty) W := Lib.run_unsafeString_none W _ _ _ q
end Ytolckkckheiceaa
end Go.Proofs
