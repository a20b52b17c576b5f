/- siskinref06: List, In, Of, Same. -/
import Derived.Test.YtgedkcglkhleoaaDoorBase
namespace Go.Proofs.YtgedkcglkhleoaaDoor
open Go.RowKit

theorem Tryd.infoInt : (Tryd.prog.info? 3).map (fun i => (i.zero, i.size, i.bytes)) = some (some (.int .i64 0), 1, 8) := by kernel_rfl
/-- A set's numbers below k. -/
def bitsN (s : Nat) : Nat → List Int
  | 0 => []
  | k + 1 => if s.testBit k then bitsN s k ++ [(k : Int)] else bitsN s k
theorem bitsN_len (s : Nat) : ∀ k, (bitsN s k).length ≤ k
  | 0 => Nat.le_refl _
  | k + 1 => by
    have := bitsN_len s k
    unfold bitsN
    split
    · simp; omega
    · omega
theorem bitsN_mem (s : Nat) (x : Int) : ∀ k : Nat, x ∈ bitsN s k ↔ 0 ≤ x ∧ x < k ∧ s.testBit x.toNat = true
  | 0 => by simp [bitsN]; omega
  | k + 1 => by
    have ih := bitsN_mem s x k
    unfold bitsN
    split
    · rename_i h
      rw [List.mem_append, ih, List.mem_singleton]
      constructor
      · rintro (⟨h1, h2, h3⟩ | rfl)
        · exact ⟨h1, by omega, h3⟩
        · exact ⟨by omega, by omega, by rw [Int.toNat_natCast]; exact h⟩
      · rintro ⟨h1, h2, h3⟩
        by_cases hx : x = k
        · exact .inr hx
        · exact .inl ⟨h1, by omega, h3⟩
    · rename_i h
      rw [ih]
      constructor
      · rintro ⟨h1, h2, h3⟩; exact ⟨h1, by omega, h3⟩
      · rintro ⟨h1, h2, h3⟩
        refine ⟨h1, ?_, h3⟩
        by_cases hx : x = k
        · subst hx; rw [Int.toNat_natCast] at h3; exact absurd h3 h
        · omega
/-- The set of a list's numbers below k. -/
def ofN (l : List Int) : Nat → Nat
  | 0 => 0
  | k + 1 => if (k : Int) ∈ l then ofN l k + 1 <<< k else ofN l k
theorem ofN_lt (l : List Int) : ∀ k, ofN l k < 2 ^ k
  | 0 => Nat.one_pos
  | k + 1 => by
    have := ofN_lt l k
    unfold ofN
    rw [Nat.pow_succ]
    split
    · rw [Nat.one_shiftLeft]; omega
    · omega
theorem or_bit_add {t k : Nat} (h : t < 2 ^ k) : t ||| 1 <<< k = t + 1 <<< k := by
  rw [Nat.one_shiftLeft, Nat.add_comm]
  have := Nat.two_pow_add_eq_or_of_lt h 1
  rw [Nat.mul_one] at this
  rw [this, Nat.or_comm]
theorem ofN_bit (l : List Int) (j : Nat) : ∀ k, (ofN l k).testBit j = (decide (j < k) && decide ((j : Int) ∈ l))
  | 0 => by simp [ofN]
  | k + 1 => by
    have ih := ofN_bit l j k
    have hlt := ofN_lt l k
    unfold ofN
    split
    · rename_i h
      have hz : (ofN l k).testBit k = false := Nat.testBit_lt_two_pow hlt
      rw [← or_bit_add hlt, Nat.testBit_or, ih, Nat.one_shiftLeft, Nat.testBit_two_pow]
      by_cases hj : j < k
      · simp [hj, show j < k + 1 by omega, show ¬ k = j by omega]
      · by_cases hk : j = k
        · subst hk; simp [h]
        · simp [hj, show ¬ j < k + 1 by omega, show ¬ k = j by omega]
    · rename_i h
      rw [ih]
      by_cases hj : j < k
      · simp [hj, show j < k + 1 by omega]
      · by_cases hk : j = k
        · subst hk; simp [h]
        · simp [hj, show ¬ j < k + 1 by omega]
/-- What bits tell a set apart. -/
theorem ofN_or {a b : Nat} (ha : a < 2 ^ 64) (hb : b < 2 ^ 64) (l : List Int) (h : ∀ j : Nat, j < 64 → (decide ((j : Int) ∈ l)) = (a.testBit j || b.testBit j)) : ofN l 64 = a ||| b := by
  apply Nat.eq_of_testBit_eq
  intro j
  rw [ofN_bit, Nat.testBit_or]
  by_cases hj : j < 64
  · rw [decide_eq_true hj, Bool.true_and, h j hj]
  · have hp : 2 ^ 64 ≤ 2 ^ j := Nat.pow_le_pow_right (by decide) (by omega)
    rw [decide_eq_false hj, Nat.testBit_lt_two_pow (Nat.lt_of_lt_of_le ha hp), Nat.testBit_lt_two_pow (Nat.lt_of_lt_of_le hb hp)]; rfl
end Go.Proofs.YtgedkcglkhleoaaDoor
