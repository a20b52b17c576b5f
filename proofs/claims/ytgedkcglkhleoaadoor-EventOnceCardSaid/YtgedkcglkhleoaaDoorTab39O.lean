/- The card of EventOnce: the listed table as the walk wants it; the walk's frame. -/
import Derived.Test.YtgedkcglkhleoaaDoorLaw39O
import Derived.Test.YtgedkcglkhleoaaDoorRows
import Derived.Test.YtgedkcglkhleoaaDoorBase
import Derived.Stop.LaidErr
import Derived.MakeChecks
import Derived.Lib.LaidTab
namespace Go.Proofs.YtgedkcglkhleoaaDoor
open Go.RowKit

theorem pow10_data : (Rows.laid_internal_strconv_uint64pow10 : DataW Unit) = Lib.tabData .u64 Lib.pow10Tab := by kernel_rfl
theorem eventOnce_tab {W : World} (h : laidMetH Tryd.prog Rows.eventOnceRow.laid W) : Tab W := by
  rw [MakeChecks.laidMetH_plain _ _ _ (by kernel_rfl)] at h
  have h2 := (laidMet.tail (laidMet.tail h))
  rw [pow10_data] at h2
  exact Lib.tabIs_of_head (g := 1) (t := 133) (e := 38) (n := 20) (by kernel_rfl) (by kernel_rfl) (by kernel_rfl) (by kernel_rfl) (by kernel_rfl) (by kernel_rfl) h2
theorem eventOnce_walk (W : World) (y0 : WorldS) (cs0 : Array Value) (K0 : Kd.world.K W Any y0 cs0.toList) (w0 : okConf y0.conf ∧ ∀ J ∈ y0.jobs, okStrs J.needs) (y1 : List EvS) (v : Value) (K1 : Kd.event.slice.K W Any y1 [v]) (w1 : (∀ y ∈ y1, EvInt y) ∧ y1.length * 32 ≤ 140737488351232) (hL : laidMetH Tryd.prog Rows.eventOnceRow.laid W) :
    Calls Tryd.prog 3 #[.agg cs0, v] W fun e W' => e = .returned (.bool true) ∧ Below W.heap.size W W' := by
  obtain ⟨cs0⟩ := cs0
  obtain ⟨CA, ca, CB, cb, JA, jc, h, k1, k2, k3⟩ := world_cells K0
  have h : cs0 = _ := h
  subst h
  exact eventOnceLaw y0.conf CA CB ca cb y0.jobs JA jc y1 v W ⟨k1, k2, w0.1.2.1⟩ k3 K1 (eventOnce_tab hL)
end Go.Proofs.YtgedkcglkhleoaaDoor
