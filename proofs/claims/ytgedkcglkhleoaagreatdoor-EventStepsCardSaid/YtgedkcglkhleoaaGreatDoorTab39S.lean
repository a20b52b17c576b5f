/- The card of EventSteps: the listed table as the walk wants it; the walk's frame. -/
import Derived.Test.YtgedkcglkhleoaaGreatDoorLaw39S
import Derived.Test.YtgedkcglkhleoaaGreatDoorRows
import Derived.Test.YtgedkcglkhleoaaGreatDoorBase
import Derived.Stop.LaidErr
import Derived.MakeChecks
import Derived.Lib.LaidTab
namespace Go.Proofs.YtgedkcglkhleoaaGreatDoor
open Go.RowKit

theorem pow10_data : (Rows.laid_internal_strconv_uint64pow10 : DataW Unit) = Lib.tabData .u64 Lib.pow10Tab := by kernel_rfl
theorem eventSteps_tab {W : World} (h : laidMetH Tryz.prog Rows.eventStepsRow.laid W) : Tab W := by
  rw [MakeChecks.laidMetH_plain _ _ _ (by kernel_rfl)] at h
  have h2 := (laidMet.tail (laidMet.tail h))
  rw [pow10_data] at h2
  exact Lib.tabIs_of_head (g := 1) (t := 164) (e := 55) (n := 20) (by kernel_rfl) (by kernel_rfl) (by kernel_rfl) (by kernel_rfl) (by kernel_rfl) (by kernel_rfl) h2
theorem event_cells {w : World} {S : Nat → Prop} {x : EvS} {cs : List Value} (h : Kd.event.K w S x cs) : cs = [.int .i64 x.kind, .int .i64 x.job, .int .i64 x.task, .int .i64 x.worker] := h
theorem eventSteps_walk (W : World) (y0 : WorldS) (cs0 : Array Value) (K0 : Kd.world.K W Any y0 cs0.toList) (w0 : okConf y0.conf ∧ ∀ J ∈ y0.jobs, okStrs J.needs) (y1 : List EntryS) (v : Value) (K1 : Kd.entry.slice.K W Any y1 [v]) (w1 : (∀ y ∈ y1, okEntryI y) ∧ y1.length * 96 ≤ 140737488351232) (y2 : EvS) (cs2 : Array Value) (K2 : Kd.event.K W Any y2 cs2.toList) (w2 : EvInt y2) (hL : laidMetH Tryz.prog Rows.eventStepsRow.laid W) :
    Calls Tryz.prog 3 #[.agg cs0, v, .agg cs2] W fun e W' => e = .returned (.bool true) ∧ Below W.heap.size W W' := by
  obtain ⟨cs0⟩ := cs0
  obtain ⟨cs2⟩ := cs2
  obtain ⟨CA, ca, CB, cb, JA, jc, h, k1, k2, k3⟩ := world_cells K0
  have h : cs0 = _ := h
  subst h
  have h2 : cs2 = _ := event_cells K2
  subst h2
  exact eventStepsLaw y0.conf CA CB ca cb y0.jobs JA jc y1 v y2 W ⟨k1, k2, w0.1.2.1⟩ k3 K1 (fun E hE => (w1.1 E hE).2) w2 (eventSteps_tab hL)
end Go.Proofs.YtgedkcglkhleoaaGreatDoor
