import Derived.Test.YtolckkckheiceaaNamesF
namespace Go.Proofs.Ytolckkckheiceaa
open Go.RowKit
theorem first_same {l m : List ByteArray} {r : Int} (hlen : l.length = m.length) (h : firstAt (fun i => decide (l[i]?.getD ByteArray.empty ≠ m[i]?.getD ByteArray.empty)) l.length r) : decide (r < 0) = decide (l = m) := by
  rw [decide_eq_decide]
  rcases h with ⟨h0, h1, h2, h3⟩ | ⟨rfl, h⟩
  · refine ⟨fun h => by omega, fun h => ?_⟩
    subst h
    simp at h2
  · refine ⟨fun _ => List.ext_getElem hlen (fun i h1 h2 => ?_), fun _ => by omega⟩
    have := h i (by omega)
    simpa [List.getElem?_eq_getElem h1, List.getElem?_eq_getElem h2] using this

end Go.Proofs.Ytolckkckheiceaa
