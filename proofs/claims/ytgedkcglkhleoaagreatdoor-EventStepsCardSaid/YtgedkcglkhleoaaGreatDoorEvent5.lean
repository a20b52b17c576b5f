/- event.Step, whatever the event. -/
import Derived.Test.YtgedkcglkhleoaaGreatDoorEvent4
import Derived.Test.YtgedkcglkhleoaaGreatDoorLong39
import Derived.Test.YtgedkcglkhleoaaGreatDoorBase
namespace Go.Proofs.YtgedkcglkhleoaaGreatDoor
open Go.RowKit

theorem ev_accept (C : ConfS) (js : List JobS) (b : List EntryS) (id t k : Int) : evStep C js b ⟨1, id, t, k⟩ = if okA C js b id t k = true then some (acceptS C js b id t k) else none := by
  unfold evStep acceptS
  rw [if_pos rfl]
  dsimp only
  cases h : okA C js b id t k <;> rfl
theorem ev_accept1 (C : ConfS) (js : List JobS) (b : List EntryS) (id t k : Int) : (evStep C js b ⟨1, id, t, k⟩).isSome = okA C js b id t k := by
  rw [ev_accept]
  cases okA C js b id t k <;> rfl
theorem ev_accept2 (C : ConfS) (js : List JobS) (b : List EntryS) (id t k : Int) : (evStep C js b ⟨1, id, t, k⟩).getD b = acceptS C js b id t k := by
  rw [ev_accept]
  cases h : okA C js b id t k
  · rw [acceptS_no h]; rfl
  · rfl
theorem estep_calls (C : ConfS) (CA CB : Option Addr) (ca cb : Nat) (js : List JobS) (JA0 : Option Addr) (jn jcap : Nat) (b : List EntryS) (v : Value) (kd id t k : Int) (w : World) (hC : CAt w C CA CB ca cb) (hj : Kd.job.slice.K w Any js [.slice JA0 jn jcap]) (hb : Kd.entry.slice.K w Any b [v]) (hB : EvOk b) (hjs : ∀ J ∈ js, (∀ s ∈ J.needs, s.size ≤ 140737488351232) ∧ J.needs.length ≤ 1000) :
    Calls Tryz.prog 10 #[.agg #[.int .i64 C.scheds, .int .i64 C.lease, .int .i64 C.again, .int .i64 C.room, .int .i64 C.out, .slice CA C.names.length ca, .slice CB C.workers.length cb], .slice JA0 jn jcap, v, .agg #[.int .i64 kd, .int .i64 id, .int .i64 t, .int .i64 k]] w fun e w' => ∃ o, e = .returned (.tuple #[o, .bool (evStep C js b ⟨kd, id, t, k⟩).isSome]) ∧ Kd.entry.slice.K w' Any ((evStep C js b ⟨kd, id, t, k⟩).getD b) [o] ∧
      ((evStep C js b ⟨kd, id, t, k⟩).isSome = true → Own Kd.entryF 45 w' w.heap.size (fun j => w.heap.size ≤ j) o ((evStep C js b ⟨kd, id, t, k⟩).getD b)) ∧ Below w.heap.size w w' := by
  by_cases hk : kd = 1
  · subst hk
    rw [ev_accept1, ev_accept2]
    exact estepAO_calls C CA CB ca cb js JA0 jn jcap b v id t k w hC hj hb hB.fits hB.len hjs
  · exact estepT_calls C CA CB ca cb js JA0 jn jcap b v kd id t k w hk hC hb hB
end Go.Proofs.YtgedkcglkhleoaaGreatDoor
