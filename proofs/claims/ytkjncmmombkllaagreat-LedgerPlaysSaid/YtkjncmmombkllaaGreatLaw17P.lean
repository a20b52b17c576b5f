import Derived.Test.YtkjncmmombkllaaGreatPrf
import Derived.Test.YtkjncmmombkllaaGreatOpens2
namespace Go.Proofs.YtkjncmmombkllaaGreat
open Go.RowKit

/-- A record that lies in a block of its own. -/
theorem rec_cells {W : World} {g : Nat} {x : RecS} {A : Option Addr} {n c : Nat} (h : W.heap[g]? = some (.cells #[.int .i64 x.kind, .int .i64 x.job, .int .i64 x.task, .int .i64 x.worker, .int .i64 x.sched, .int .i64 x.epoch, .slice A n c] 46 (0, 0))) :
    W.cell? ⟨g, 0, none⟩ = some (.int .i64 x.kind) ∧ W.cell? ⟨g, 1, none⟩ = some (.int .i64 x.job) ∧ W.cell? ⟨g, 2, none⟩ = some (.int .i64 x.task) ∧ W.cell? ⟨g, 3, none⟩ = some (.int .i64 x.worker) ∧ W.cell? ⟨g, 4, none⟩ = some (.int .i64 x.sched) ∧ W.cell? ⟨g, 5, none⟩ = some (.int .i64 x.epoch) ∧ W.cell? ⟨g, 6, none⟩ = some (.slice A n c) := by
  obtain ⟨q, _, _⟩ := cells_of_block h
  exact ⟨q 0 _ rfl, q 1 _ rfl, q 2 _ rfl, q 3 _ rfl, q 4 _ rfl, q 5 _ rfl, q 6 _ rfl⟩

end Go.Proofs.YtkjncmmombkllaaGreat
