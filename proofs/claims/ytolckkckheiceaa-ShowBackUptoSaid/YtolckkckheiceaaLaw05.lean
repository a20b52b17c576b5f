import Derived.Test.YtolckkckheiceaaProg
import Derived.Test.YtolckkckheiceaaRef03L
import Derived.Test.YtolckkckheiceaaRef05
namespace Go.Proofs.Ytolckkckheiceaa
open Go.RowKit

/-! ### siskinlaw05 -/
def bGpu : ByteArray := ⟨#[103, 112, 117]⟩
def bSsd : ByteArray := ⟨#[115, 115, 100]⟩
def bTpu : ByteArray := ⟨#[116, 112, 117]⟩
theorem works05_a : setN [bGpu, bSsd] [bSsd] 0 0 = (2, -1, 0) := by decide +kernel
theorem works05_b : setN [bGpu, bSsd] [bSsd, bTpu] 0 0 = (0, 1, 5) := by decide +kernel

end Go.Proofs.Ytolckkckheiceaa
