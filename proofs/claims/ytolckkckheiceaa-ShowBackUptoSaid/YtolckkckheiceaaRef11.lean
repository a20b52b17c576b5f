/- siskinref11: Part, Text0, Text. -/
import Derived.Test.YtolckkckheiceaaRef09
import Derived.Test.YtolckkckheiceaaShow0
import Derived.Outline
import Derived.Deep.RegionHeld3
namespace Go.Proofs.Ytolckkckheiceaa
open Go.RowKit
theorem leaf_op {x : NodeS} (hok : (TreeS.leaf x).ok) : (x.op = 1 ∧ x.n = 0) ∨ (x.op = 2 ∧ 0 ≤ x.n ∧ x.n < 16) := by
  obtain ⟨hm, hp⟩ := hok
  unfold mayN at hm
  unfold partsN at hp
  split at hm
  · simp at hm; right; exact ⟨by assumption, hm⟩
  · simp at hm
    split at hp
    · cases hp
    · split at hp
      · cases hp
      · left; omega
def knownT (tab : List ByteArray) (t : TreeS) : Prop := ∀ x ∈ t.nodes, x.op = 2 → x.n < (tab.length : Int)
end Go.Proofs.Ytolckkckheiceaa
