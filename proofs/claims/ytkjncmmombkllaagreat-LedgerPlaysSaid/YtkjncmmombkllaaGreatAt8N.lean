import Derived.Test.YtkjncmmombkllaaGreatBase
import Derived.Test.YtkjncmmombkllaaGreatOctet
namespace Go.Proofs.YtkjncmmombkllaaGreat
open Go.RowKit

/-- The cells of a byte in its row. -/
theorem Kd.Row.at_u8 {w : World} {S : Nat → Prop} {A : Option Addr} {xs : List UInt8} (h : Kd.u8.Row w S A xs) (i : Nat) (hi : i < xs.length) : ∃ a x, A = some a ∧ xs[i]? = some x ∧ w.cell? (a.add i) = some (.int .u8 x.toNat) := by
  obtain ⟨a, cs, h1, _, _, h4, h5⟩ := h i xs[i] (List.getElem?_eq_getElem hi)
  cases h4
  exact ⟨a, xs[i], h1, List.getElem?_eq_getElem hi, by have := h5 0 _ rfl; rwa [show i * Kd.u8.sz + 0 = i from mul_one' i] at this⟩

theorem nil_own (w : World) : Own Kd.u8 5 w w.heap.size NoT (.slice none 0 0) [] := Own.nil _ _ _ _ _
theorem textL_len (l : List UInt8) (h : l.length ≤ maxNum) : (textL l).length ≤ l.length + 8 := by
  unfold textL
  have := numL_len_le h
  simp; omega
end Go.Proofs.YtkjncmmombkllaaGreat
namespace Go.Proofs.YtkjncmmombkllaaGreat
open Go.RowKit

theorem needs_len {l : List ByteArray} (h : ∀ s ∈ l, s.size ≤ 200) : (l.flatMap (fun s => textL s.data.toList)).length ≤ 208 * l.length := by
  induction l with
  | nil => simp
  | cons s l ih =>
    have h1 := h s (by simp)
    have h2 := ih (fun t ht => h t (by simp [ht]))
    have h3 := textL_len s.data.toList (by rw [data_len]; unfold maxNum; omega)
    rw [data_len] at h3
    simp only [List.flatMap_cons, List.length_append, List.length_cons]
    omega
end Go.Proofs.YtkjncmmombkllaaGreat
