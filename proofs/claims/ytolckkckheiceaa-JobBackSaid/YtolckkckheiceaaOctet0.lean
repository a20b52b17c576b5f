/- Numbers and texts as bytes: plain. -/
import Derived.Test.YtolckkckheiceaaRunes
namespace Go.Proofs.Ytolckkckheiceaa
open Go.RowKit

/-- the lowest w digits of n to base 256, the highest first -/
def be (n : Nat) : Nat → List UInt8
  | 0 => []
  | w + 1 => UInt8.ofNat (n / 256 ^ w) :: be n w
theorem be_len (n : Nat) : ∀ w, (be n w).length = w
  | 0 => rfl
  | w + 1 => by simp [be, be_len n w]
theorem be_at (n : Nat) : ∀ w i, i < w → (be n w)[i]? = some (UInt8.ofNat (n / 256 ^ (w - 1 - i)))
  | 0, i, h => by omega
  | w + 1, 0, _ => by simp [be]
  | w + 1, i + 1, h => by
    rw [be, List.getElem?_cons_succ, be_at n w i (by omega)]
    rw [show w + 1 - 1 - (i + 1) = w - 1 - i by omega]

/-- w is how many digits n has -/
def IsW (n w : Nat) : Prop := 1 ≤ w ∧ n / 256 ^ w = 0 ∧ ∀ j, 1 ≤ j → j < w → 0 < n / 256 ^ j
theorem div_mono (n j k : Nat) (h : j ≤ k) : n / 256 ^ k ≤ n / 256 ^ j := by
  obtain ⟨d, rfl⟩ := Nat.exists_eq_add_of_le h
  rw [Nat.pow_add, ← Nat.div_div_eq_div_mul]
  exact Nat.div_le_self _ _
theorem IsW.unique {n w v : Nat} (h : IsW n w) (k : IsW n v) : w = v := by
  rcases Nat.lt_trichotomy w v with h1 | h1 | h1
  · have := k.2.2 w h.1 h1; have := h.2.1; omega
  · exact h1
  · have := h.2.2 v k.1 h1; have := k.2.1; omega
def widN : Nat → Nat → Nat
  | 0, _ => 1
  | f + 1, n => if n < 256 then 1 else widN f (n / 256) + 1
theorem widN_is : ∀ (f n : Nat), n < 256 ^ (f + 1) → IsW n (widN f n)
  | 0, n, h => ⟨Nat.le_refl _, by simp [widN]; simpa using h, fun j h1 h2 => by simp [widN] at h2; omega⟩
  | f + 1, n, h => by
    by_cases hn : n < 256
    · rw [widN, if_pos hn]
      exact ⟨Nat.le_refl _, by simp; exact hn, fun j h1 h2 => by omega⟩
    · have hd : n / 256 < 256 ^ (f + 1) := by
        rw [Nat.div_lt_iff_lt_mul (by decide)]
        rw [Nat.pow_succ] at h; exact h
      obtain ⟨h1, h2, h3⟩ := widN_is f (n / 256) hd
      rw [widN, if_neg hn]
      refine ⟨by omega, ?_, fun j hj1 hj2 => ?_⟩
      · rw [Nat.pow_succ, Nat.mul_comm, ← Nat.div_div_eq_div_mul]; exact h2
      · rcases Nat.eq_or_lt_of_le hj1 with h4 | h4
        · subst h4; simp; omega
        · obtain ⟨j', rfl⟩ : ∃ j', j = j' + 1 := ⟨j - 1, by omega⟩
          rw [Nat.pow_succ, Nat.mul_comm, ← Nat.div_div_eq_div_mul]
          exact h3 j' (by omega) (by omega)
def maxNum : Nat := 72057594037927935
def width (n : Nat) : Nat := widN 7 n
theorem width_is {n : Nat} (h : n ≤ maxNum) : IsW n (width n) := widN_is 7 n (by unfold maxNum at h; omega)
theorem width_le {n : Nat} (h : n ≤ maxNum) : width n ≤ 7 := by
  obtain ⟨h1, h2, h3⟩ := width_is h
  rcases Nat.lt_or_ge 7 (width n) with h4 | h4
  · have := h3 7 (by omega) h4
    unfold maxNum at h
    omega
  · exact h4
/-- a number's bytes -/
def numL (n : Nat) : List UInt8 := if n < 248 then [UInt8.ofNat n] else UInt8.ofNat (247 + width n) :: be n (width n)
def clampN (n : Int) : Nat := (min (max n 0) 72057594037927935).toNat
theorem clampN_le (n : Int) : clampN n ≤ maxNum := by unfold clampN maxNum; omega
theorem clampN_nat {n : Nat} (h : n ≤ maxNum) : clampN n = n := by unfold clampN; unfold maxNum at h; omega
theorem numL_len_le {n : Nat} (h : n ≤ maxNum) : (numL n).length ≤ 8 := by
  unfold numL
  have := width_le h
  split
  · simp
  · simp [be_len]; omega
def textL (s : List UInt8) : List UInt8 := numL s.length ++ s

theorem ofNat_byte (n : Nat) : ((UInt8.ofNat n).toNat : Int) = (n : Int) % 256 := by
  rw [UInt8.toNat_ofNat']; simp
theorem u8_wrap (n : Nat) : IntKind.u8.wrap (n : Int) = ((UInt8.ofNat n).toNat : Int) := by rw [ofNat_byte, IntKind.wrap_u8]
theorem pow_256 (k : Nat) : 2 ^ (8 * k) = 256 ^ k := by rw [Nat.pow_mul]
theorem shr_byte (z d : Nat) : (z : Int) / 2 ^ (8 * d) % 256 = ((UInt8.ofNat (z / 256 ^ d)).toNat : Int) := by
  have h : ((2 : Int) ^ (8 * d)) = ((256 ^ d : Nat) : Int) := by rw [← pow_256]; simp
  rw [ofNat_byte, h]
  rfl
end Go.Proofs.Ytolckkckheiceaa
