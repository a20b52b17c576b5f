import Derived.Test.YtlckkcefkiffjaaProg
import Derived.Test.YtlckkcefkiffjaaWorks04
import Derived.Test.YtlckkcefkiffjaaRef04
import Derived.Test.YtlckkcefkiffjaaFold04
namespace Go.Proofs.Ytlckkcefkiffjaa
open Go.RowKit

theorem i32_range {t : Int} (h : (Lit.int .i32 t).wf = true) : -2147483648 ≤ t ∧ t ≤ 2147483647 := by
  simp [Lit.wf, IntKind.min, IntKind.max, IntKind.bits, IntKind.signed] at h
  omega

set_option maxHeartbeats 800000 in
set_option maxRecDepth 100000 in
theorem glyphNames_walk (W : World) (s : ByteArray) (hs : s.size ≤ 140737488351232) (c : Int) (hc : (Lit.int .i32 c).wf = true) :
    Calls Try.prog 4 #[.string s, .int .i32 c] W fun e w' => e = .returned (.bool true) ∧ Below W.heap.size W w' := by
  obtain ⟨hc1, hc2⟩ := i32_range hc
  clear hc
  by_cases hl : s.size > 1000
  · go_enter Try.func4, Try.ntmps4
    go_wp2_with fail
    refine (works04_calls _).mono ?_
    rintro e w1 ⟨rfl, hb1⟩
    go_wp2
    go_ret
    exact ⟨rfl, hb1⟩
  · go_enter Try.func4, Try.ntmps4
    go_wp2_with fail
    refine (letter_calls c _).mono ?_
    rintro e w1 ⟨rfl, rfl⟩
    go_wp2_with fail
    refine (rletter_calls c _).mono ?_
    rintro e w1 ⟨rfl, rfl⟩
    go_wp2_with fail
    refine (name_calls s _ hs).mono ?_
    rintro e w1 ⟨rfl, hb1⟩
    go_wp2_with fail
    refine (rname_calls s _ (by omega)).mono ?_
    rintro e w2 ⟨rfl, hb2⟩
    go_wp2_with fail
    refine (fold_calls s _ hs).mono ?_
    rintro e w3 ⟨rfl, hb3⟩
    go_wp2_with fail
    refine (rfold_calls s _ hs).mono ?_
    rintro e w4 ⟨rfl, hb4⟩
    go_wp2_with fail
    refine (works04_calls _).mono ?_
    rintro e w5 ⟨rfl, hb5⟩
    go_wp2
    go_ret
    exact ⟨rfl, bThen (bThen (bThen (bThen hb1 hb2) hb3) hb4) hb5⟩

end Go.Proofs.Ytlckkcefkiffjaa
