import Derived.Test.YtolckkckheiceaaRef05c
import Derived.Test.YtolckkckheiceaaLaw05
namespace Go.Proofs.Ytolckkckheiceaa
open Go.RowKit
theorem long_size {l : List ByteArray} {a b : Int} (h : longB l a b = false) : ∀ y ∈ l, (y.size : Int) ≤ b := by
  intro y hy
  simp only [longB, Bool.or_eq_false_iff, List.any_eq_false, decide_eq_true_eq] at h
  have := h.1 y hy
  omega

end Go.Proofs.Ytolckkckheiceaa
