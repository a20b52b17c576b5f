import Derived.Test.YtlckkcefkiffjaaLib
namespace Go.Proofs.Ytlckkcefkiffjaa
open Go.RowKit
theorem cell_keep {w w1 : World} {a : Addr} {u : Value} (hb : Below w.heap.size w w1) (h : w.cell? a = some u) : w1.cell? a = some u :=
  (World.cell?_of_block (w := w) (hb.block _ (World.block_lt_of_cell? w a (by rw [h])))).trans h
end Go.Proofs.Ytlckkcefkiffjaa
