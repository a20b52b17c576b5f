/- As many tasks an entry has: book.tasks, event.tasks, siskinref20.Tasks. -/
import Derived.Test.YtgedkcglkhleoaaDoorEntryE
import Derived.Test.YtgedkcglkhleoaaDoorBase
namespace Go.Proofs.YtgedkcglkhleoaaDoor
open Go.RowKit
set_option maxHeartbeats 4000000 in
set_option maxRecDepth 100000 in
theorem etasks_calls (E : EntryS) (EA EB ED : Option Addr) (ea eb ed : Nat) (w : World) :
    Calls Tryd.prog 15 #[.agg #[.int .i64 E.id, .int .i64 E.sched, .int .i64 E.epoch, .slice EA E.needs.length ea, .slice EB E.bound.length eb, .slice ED E.done.length ed]] w fun e w' => e = .returned (.int .i64 (tasksE E : Nat)) ∧ Below w.heap.size w w' := by
  obtain ⟨n1, hn1⟩ : ∃ n, n = E.needs.length := ⟨_, rfl⟩
  obtain ⟨n2, hn2⟩ : ∃ n, n = E.bound.length := ⟨_, rfl⟩
  obtain ⟨n3, hn3⟩ : ∃ n, n = E.done.length := ⟨_, rfl⟩
  have HV := hid (show ((tasksE E : Nat) : Int) = min (n1 : Int) (min (n2 : Int) (n3 : Int)) by unfold tasksE; rw [← hn1, ← hn2, ← hn3]; omega)
  rw [← hn1, ← hn2, ← hn3]
  clear hn1 hn2 hn3
  go_enter Tryd.func15, Tryd.ntmps15
  go_wp2
  go_ret
  rw [HV.out]
  exact ⟨rfl, bAlloc (Below.refl _ _) _⟩
end Go.Proofs.YtgedkcglkhleoaaDoor
