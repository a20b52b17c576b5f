import Derived.Test.YtolckkckheiceaaProg
import Derived.Test.YtolckkckheiceaaNames
import Derived.Test.YtolckkckheiceaaGlyph
import Derived.Test.YtolckkckheiceaaKeep
import Derived.Test.YtolckkckheiceaaNamesS
namespace Go.Proofs.Ytolckkckheiceaa
open Go.RowKit

/-! ### the order of strings -/
theorem less_total : ∀ (x y : List UInt8), (!Op.bytesLess x y) = (Op.bytesLess y x || y == x)
  | [], [] => rfl
  | [], _ :: _ => rfl
  | _ :: _, [] => rfl
  | a :: x, b :: y => by
    have ih := less_total x y
    simp only [Op.bytesLess, List.cons_beq_cons]
    rcases Nat.lt_trichotomy a.toNat b.toNat with h | h | h
    · have h1 : a < b := h
      have h2 : ¬ b < a := fun h3 => by have : b.toNat < a.toNat := h3; omega
      have h3 : (a == b) = false := by rw [beq_eq_false_iff_ne]; rintro rfl; omega
      have h4 : (b == a) = false := by rw [beq_eq_false_iff_ne]; rintro rfl; omega
      simp [h1, h2, h4]
    · obtain rfl : a = b := UInt8.toNat_inj.1 h
      have h2 : ¬ a < a := fun h3 => by have : a.toNat < a.toNat := h3; omega
      simp [h2, ih]
    · have h1 : b < a := h
      have h2 : ¬ a < b := fun h3 => by have : a.toNat < b.toNat := h3; omega
      have h3 : (a == b) = false := by rw [beq_eq_false_iff_ne]; rintro rfl; omega
      simp [h1, h2, h3]

/-- is the name at i no less than the next one? -/
def notUp (l : List ByteArray) (i : Nat) : Bool := !Op.bytesLess (l[i]?.getD ByteArray.empty).toList (l[i + 1]?.getD ByteArray.empty).toList
def descB (l : List ByteArray) : Bool := (List.range (l.length - 1)).any (notUp l)
def tabE (l : List ByteArray) : Int := if (16 : Int) < l.length then 1 else if l.all nameB = false then 5 else if descB l = true then 1 else 0

theorem first_any {p : Nat → Bool} {n : Nat} {r : Int} (h : firstAt p ((n : Int) - 1) r) : decide (0 ≤ r) = (List.range (n - 1)).any p := by
  rw [Bool.eq_iff_iff, decide_eq_true_iff, List.any_eq_true]
  rcases h with ⟨h0, h1, h2, h3⟩ | ⟨rfl, h⟩
  · exact ⟨fun _ => ⟨r.toNat, by rw [List.mem_range]; omega, h2⟩, fun _ => h0⟩
  · refine ⟨fun h => by omega, fun ⟨j, hj, hp⟩ => ?_⟩
    rw [List.mem_range] at hj
    rw [h j (by omega)] at hp
    cases hp

end Go.Proofs.Ytolckkckheiceaa
