import Derived.Test.YtgedkcglkhleoaaDoorProg
import Derived.Test.YtgedkcglkhleoaaDoorBase
import Derived.Handy
namespace Go.Proofs.YtgedkcglkhleoaaDoor
open Go.RowKit

/-! ### siskinref04.Size -/
theorem szR_2 {s : ByteArray} {p : Nat} (h : good2 s p) : szR s p = 2 := by unfold szR; rw [dec_2 h]; rw [if_neg (by intro e; injection e with _ e; omega)]
theorem szR_3 {s : ByteArray} {p : Nat} (h : good3 s p) : szR s p = 3 := by unfold szR; rw [dec_3 h]; rw [if_neg (by intro e; injection e with _ e; omega)]
theorem szR_4 {s : ByteArray} {p : Nat} (h : good4 s p) : szR s p = 4 := by unfold szR; rw [dec_4 h]; rw [if_neg (by intro e; injection e with _ e; omega)]
theorem szR_1 {s : ByteArray} {p : Nat} (h : bN s p < 128) : szR s p = 1 := by unfold szR; rw [dec_low h]; rw [if_neg (by intro e; injection e with e _; omega)]
theorem szR_bad {s : ByteArray} {p : Nat} (h1 : 128 ≤ bN s p) (h2 : ¬ good2 s p) (h3 : ¬ good3 s p) (h4 : ¬ good4 s p) : szR s p = 0 := by unfold szR; rw [dec_bad h1 h2 h3 h4, if_pos rfl]
theorem szR_tail (s : ByteArray) (p : Nat) : szR (tail s p) 0 = szR s p := by unfold szR; rw [dec_tail]

end Go.Proofs.YtgedkcglkhleoaaDoor
