/- siskinref39.Accept. -/
import Derived.Test.YtgedkcglkhleoaaDoorEvent7
import Derived.Test.YtgedkcglkhleoaaDoorBase
import Derived.Deep.CutBlock
namespace Go.Proofs.YtgedkcglkhleoaaDoor
open Go.RowKit

/-- Needs that are short enough to be read. -/
def Short24 (js : List JobS) : Prop := ∀ J ∈ js, ∀ s ∈ J.needs, s.size * 24 ≤ 140737488351232
theorem ne_own39 {k g n c : Nat} (h : k ≠ g) : some k ≠ (Value.slice (some ⟨g, 0, none⟩) n c).ownBlock := fun e => h (Option.some.inj e)
theorem findE_some0 {b : List EntryS} {id : Int} (h : 0 ≤ placeE b id) : (findE b id).isSome = true := by
  obtain ⟨i, E, hpi, hx, _, _⟩ := idxE_some h
  have h2 : placeE b id = i := hpi
  rw [findE_some h2 hx]; rfl
end Go.Proofs.YtgedkcglkhleoaaDoor
