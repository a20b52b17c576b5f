import Derived.Test.YtlckkcefkiffjaaProg
import Derived.Test.YtlckkcefkiffjaaGlyph
namespace Go.Proofs.Ytlckkcefkiffjaa
open Go.RowKit

/-! ### siskinlaw04.works -/
def bBad : ByteArray := ⟨#[255]⟩
def bGroesse : ByteArray := ⟨#[103, 114, 195, 182, 195, 159, 101]⟩
def b2a : ByteArray := ⟨#[50, 97]⟩
theorem works04_a : atS bBad 0 = (65533, 0) := by decide +kernel
theorem works04_b : (runes bGroesse).length = 5 := by decide +kernel
theorem works04_c : nameB bGroesse = true := by decide +kernel
theorem works04_d : nameB b2a = false := by decide +kernel

set_option maxHeartbeats 800000 in
set_option maxRecDepth 100000 in
theorem works04_calls (w : World) : Calls Try.prog 22 #[] w fun e w' => e = .returned (.bool true) ∧ Below w.heap.size w w' := by
  go_enter Try.func22, Try.ntmps22
  go_wp2_with fail
  refine (at_calls bBad 0 _ (by decide)).mono ?_
  rintro e w1 ⟨rfl, hb1⟩
  rw [works04_a]
  go_wp2_with fail
  refine (count_calls bGroesse _ (by decide)).mono ?_
  rintro e w2 ⟨rfl, hb2⟩
  rw [works04_b]
  go_wp2_with fail
  refine (name_calls bGroesse _ (by decide)).mono ?_
  rintro e w3 ⟨rfl, hb3⟩
  rw [works04_c]
  go_wp2_with fail
  refine (name_calls b2a _ (by decide)).mono ?_
  rintro e w4 ⟨rfl, hb4⟩
  rw [works04_d]
  go_wp2
  go_ret
  exact ⟨rfl, bThen (bThen (bThen hb1 hb2) hb3) hb4⟩

end Go.Proofs.Ytlckkcefkiffjaa
