/- siskinref09: May, Parts0, Begin, Depth0, Check. -/
import Derived.Test.YtgedkcglkhleoaaDoorBase
import Derived.Test.YtgedkcglkhleoaaDoorNeedW
namespace Go.Proofs.YtgedkcglkhleoaaDoor
open Go.RowKit
theorem parts_le (op : Int) : partsN op ≤ 2 := by rcases parts_val op with ⟨_, h⟩ | ⟨_, h⟩ | ⟨_, _, h⟩ <;> omega
end Go.Proofs.YtgedkcglkhleoaaDoor
