/- What R03.Long's no tells. -/
import Derived.Test.YteijgeofimcijaaRef03
namespace Go.Proofs.Yteijgeofimcijaa

theorem long_no {l : List ByteArray} {a b : Int} (h : longB l a b = false) : (∀ y ∈ l, (y.size : Int) ≤ b) ∧ (l.length : Int) ≤ a := by
  unfold longB at h
  rw [Bool.or_eq_false_iff] at h
  refine ⟨fun y hy => ?_, by simpa using h.2⟩
  have := List.any_eq_false.1 h.1 y hy
  simpa using this
end Go.Proofs.Yteijgeofimcijaa
