import Derived.Test.YtolckkckheiceaaLib
namespace Go.Proofs.Ytolckkckheiceaa
open Go.RowKit
theorem cell_keep {w w1 : World} {a : Addr} {u : Value} (hb : Below w.heap.size w w1) (h : w.cell? a = some u) : w1.cell? a = some u :=
  (World.cell?_of_block (w := w) (hb.block _ (World.block_lt_of_cell? w a (by rw [h])))).trans h
theorem cell_set_ne {w : World} {a b : Addr} {u v : Value} (h : a.block ≠ b.block) (hc : w.cell? a = some u) : (w.setCell b v).cell? a = some u :=
  (World.cell?_of_block (w := w) (Below.heap_setCell w b v a.block h)).trans hc
end Go.Proofs.Ytolckkckheiceaa
