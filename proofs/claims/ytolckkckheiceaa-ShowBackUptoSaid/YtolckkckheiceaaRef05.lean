import Derived.Test.YtolckkckheiceaaProg
import Derived.Test.YtolckkckheiceaaNames
import Derived.Test.YtolckkckheiceaaRef05P
import Derived.Test.YtolckkckheiceaaRef05H
namespace Go.Proofs.Ytolckkckheiceaa
open Go.RowKit

theorem placeN_take (l : List ByteArray) (s : ByteArray) (n : Nat) : placeN (l.take n) s = match placeN l s with | some k => if k < n then some k else none | none => none := by
  unfold placeN
  rcases h : l.findIdx? (fun x => decide (x = s)) with _ | k
  · simp only
    rw [List.findIdx?_eq_none_iff] at h ⊢
    exact fun x hx => h x (List.mem_of_mem_take hx)
  · simp only
    rw [List.findIdx?_eq_some_iff_getElem] at h
    obtain ⟨h1, h2, h3⟩ := h
    split
    · rename_i hk
      rw [List.findIdx?_eq_some_iff_getElem]
      refine ⟨by rw [List.length_take]; omega, by simpa using h2, fun j hj => by simpa using h3 j hj⟩
    · rename_i hk
      rw [List.findIdx?_eq_none_iff]
      intro x hx
      obtain ⟨i, hi, rfl⟩ := List.getElem_of_mem hx
      have hi' : i < k := by rw [List.length_take] at hi; omega
      simpa using h3 i hi'

end Go.Proofs.Ytolckkckheiceaa
