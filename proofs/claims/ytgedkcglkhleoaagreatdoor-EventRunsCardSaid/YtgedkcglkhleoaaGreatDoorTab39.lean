/- The card of EventRuns: the listed table as the walk wants it; the walk's frame. -/
import Derived.Test.YtgedkcglkhleoaaGreatDoorLaw39R
import Derived.Test.YtgedkcglkhleoaaGreatDoorRows
import Derived.Test.YtgedkcglkhleoaaGreatDoorBase
import Derived.Stop.LaidErr
import Derived.MakeChecks
import Derived.Lib.LaidTab
namespace Go.Proofs.YtgedkcglkhleoaaGreatDoor
open Go.RowKit

theorem pow10_data : (Rows.laid_internal_strconv_uint64pow10 : DataW Unit) = Lib.tabData .u64 Lib.pow10Tab := by kernel_rfl
theorem eventRuns_tab {W : World} (h : laidMetH Tryz.prog Rows.eventRunsRow.laid W) : Tab W := by
  rw [MakeChecks.laidMetH_plain _ _ _ (by kernel_rfl)] at h
  have h2 := (laidMet.tail (laidMet.tail h))
  rw [pow10_data] at h2
  exact Lib.tabIs_of_head (g := 1) (t := 164) (e := 55) (n := 20) (by kernel_rfl) (by kernel_rfl) (by kernel_rfl) (by kernel_rfl) (by kernel_rfl) (by kernel_rfl) h2
theorem world_cells {w : World} {S : Nat → Prop} {y : WorldS} {cs : List Value} (h : Kd.world.K w S y cs) : ∃ CA ca CB cb JA jc, cs = [.int .i64 y.conf.scheds, .int .i64 y.conf.lease, .int .i64 y.conf.again, .int .i64 y.conf.room, .int .i64 y.conf.out, .slice CA y.conf.names.length ca, .slice CB y.conf.workers.length cb, .slice JA y.jobs.length jc] ∧ Kd.str.slice.K w S y.conf.names [.slice CA y.conf.names.length ca] ∧ Kd.worker.slice.K w S y.conf.workers [.slice CB y.conf.workers.length cb] ∧ Kd.job.slice.K w S y.jobs [.slice JA y.jobs.length jc] := by
  obtain ⟨c0, c1, rfl, h0, h1⟩ := h
  obtain ⟨CA, ca, CB, cb, rfl, k1, k2⟩ := conf_cells h0
  have h2 := h1
  obtain ⟨JA, jc, rfl, _⟩ := h2
  exact ⟨CA, ca, CB, cb, JA, jc, rfl, k1, k2, h1⟩
theorem eventRuns_walk (W : World) (y0 : WorldS) (cs0 : Array Value) (K0 : Kd.world.K W Any y0 cs0.toList) (w0 : okConf y0.conf ∧ ∀ J ∈ y0.jobs, okStrs J.needs) (y1 : List EvS) (v : Value) (K1 : Kd.event.slice.K W Any y1 [v]) (w1 : (∀ y ∈ y1, EvInt y) ∧ y1.length * 32 ≤ 140737488351232) (hL : laidMetH Tryz.prog Rows.eventRunsRow.laid W) :
    Calls Tryz.prog 4 #[.agg cs0, v] W fun e W' => e = .returned (.bool true) ∧ Below W.heap.size W W' := by
  obtain ⟨cs0⟩ := cs0
  obtain ⟨CA, ca, CB, cb, JA, jc, h, k1, k2, k3⟩ := world_cells K0
  have h : cs0 = _ := h
  subst h
  exact eventRunsLaw y0.conf CA CB ca cb y0.jobs JA jc y1 v W ⟨k1, k2, w0.1.2.1⟩ k3 K1 (eventRuns_tab hL)
end Go.Proofs.YtgedkcglkhleoaaGreatDoor
