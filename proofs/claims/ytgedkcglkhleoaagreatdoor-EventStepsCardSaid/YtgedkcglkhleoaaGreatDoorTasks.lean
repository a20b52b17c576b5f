/- As many tasks an entry has: book.tasks, event.tasks, siskinref20.Tasks. -/
import Derived.Test.YtgedkcglkhleoaaGreatDoorEntryE
import Derived.Test.YtgedkcglkhleoaaGreatDoorBase
namespace Go.Proofs.YtgedkcglkhleoaaGreatDoor
open Go.RowKit
set_option maxHeartbeats 4000000 in
set_option maxRecDepth 100000 in
theorem rtasks20_calls (E : EntryS) (EA EB ED : Option Addr) (ea eb ed : Nat) (w : World) :
    Calls Tryz.prog 28 #[.agg #[.int .i64 E.id, .int .i64 E.sched, .int .i64 E.epoch, .slice EA E.needs.length ea, .slice EB E.bound.length eb, .slice ED E.done.length ed]] w fun e w' => e = .returned (.int .i64 (tasksE E : Nat)) ∧ Below w.heap.size w w' := by
  obtain ⟨n1, hn1⟩ : ∃ n, n = E.needs.length := ⟨_, rfl⟩
  obtain ⟨n2, hn2⟩ : ∃ n, n = E.bound.length := ⟨_, rfl⟩
  obtain ⟨n3, hn3⟩ : ∃ n, n = E.done.length := ⟨_, rfl⟩
  have HV := hid (show tasksE E = min (min n1 n2) n3 by unfold tasksE; rw [hn1, hn2, hn3])
  rw [← hn1, ← hn2, ← hn3]
  clear hn1 hn2 hn3
  by_cases h1 : n2 < n1
  · have h1I : (n2 : Int) < (n1 : Int) := by omega
    by_cases h2 : n3 < n2
    · have h2I : (n3 : Int) < (n2 : Int) := by omega
      have HF := hid (show tasksE E = n3 by rw [HV.out]; omega)
      go_enter Tryz.func28, Tryz.ntmps28
      go_wp2
      go_ret
      rw [HF.out]
      exact ⟨rfl, bAlloc (Below.refl _ _) _⟩
    · have h2I : ¬ (n3 : Int) < (n2 : Int) := by omega
      have HF := hid (show tasksE E = n2 by rw [HV.out]; omega)
      go_enter Tryz.func28, Tryz.ntmps28
      go_wp2
      go_ret
      rw [HF.out]
      exact ⟨rfl, bAlloc (Below.refl _ _) _⟩
  · have h1I : ¬ (n2 : Int) < (n1 : Int) := by omega
    by_cases h2 : n3 < n1
    · have h2I : (n3 : Int) < (n1 : Int) := by omega
      have HF := hid (show tasksE E = n3 by rw [HV.out]; omega)
      go_enter Tryz.func28, Tryz.ntmps28
      go_wp2
      go_ret
      rw [HF.out]
      exact ⟨rfl, bAlloc (Below.refl _ _) _⟩
    · have h2I : ¬ (n3 : Int) < (n1 : Int) := by omega
      have HF := hid (show tasksE E = n1 by rw [HV.out]; omega)
      go_enter Tryz.func28, Tryz.ntmps28
      go_wp2
      go_ret
      rw [HF.out]
      exact ⟨rfl, bAlloc (Below.refl _ _) _⟩
set_option maxHeartbeats 4000000 in
set_option maxRecDepth 100000 in
theorem etasks_calls (E : EntryS) (EA EB ED : Option Addr) (ea eb ed : Nat) (w : World) :
    Calls Tryz.prog 24 #[.agg #[.int .i64 E.id, .int .i64 E.sched, .int .i64 E.epoch, .slice EA E.needs.length ea, .slice EB E.bound.length eb, .slice ED E.done.length ed]] w fun e w' => e = .returned (.int .i64 (tasksE E : Nat)) ∧ Below w.heap.size w w' := by
  obtain ⟨n1, hn1⟩ : ∃ n, n = E.needs.length := ⟨_, rfl⟩
  obtain ⟨n2, hn2⟩ : ∃ n, n = E.bound.length := ⟨_, rfl⟩
  obtain ⟨n3, hn3⟩ : ∃ n, n = E.done.length := ⟨_, rfl⟩
  have HV := hid (show ((tasksE E : Nat) : Int) = min (n1 : Int) (min (n2 : Int) (n3 : Int)) by unfold tasksE; rw [← hn1, ← hn2, ← hn3]; omega)
  rw [← hn1, ← hn2, ← hn3]
  clear hn1 hn2 hn3
  go_enter Tryz.func24, Tryz.ntmps24
  go_wp2
  go_ret
  rw [HV.out]
  exact ⟨rfl, bAlloc (Below.refl _ _) _⟩
end Go.Proofs.YtgedkcglkhleoaaGreatDoor
