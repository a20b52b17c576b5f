/- CRC-32: plain. -/
import Derived.Test.YtolckkckheiceaaOctet0
namespace Go.Proofs.Ytolckkckheiceaa
open Go.RowKit

def crcStep (s : Nat) : Nat := if s % 2 = 1 then (s / 2) ^^^ 3988292384 else s / 2
def crcSteps : Nat → Nat → Nat
  | 0, s => s
  | k + 1, s => crcStep (crcSteps k s)
def crcByte (s : Nat) (x : UInt8) : Nat := crcSteps 8 (s ^^^ x.toNat)
def crcInv (s : Nat) : Nat := s ^^^ 4294967295
def crcMore (s : Nat) (b : List UInt8) : Nat := crcInv (b.foldl crcByte (crcInv s))
def crcOf (b : List UInt8) : Nat := crcMore 0 b
def four (s : Nat) : List UInt8 := [UInt8.ofNat s, UInt8.ofNat (s / 256), UInt8.ofNat (s / 65536), UInt8.ofNat (s / 16777216)]
def sealL (b : List UInt8) : List UInt8 := b ++ four (crcOf b)
def putL (s : List UInt8) : List UInt8 := if 4096 < s.length then [] else sealL (textL s)

theorem xor_lt32 {a b : Nat} (ha : a < 4294967296) (hb : b < 4294967296) : a ^^^ b < 4294967296 := Nat.xor_lt_two_pow (n := 32) ha hb
theorem crcStep_lt {s : Nat} (h : s < 4294967296) : crcStep s < 4294967296 := by
  unfold crcStep
  split
  · exact xor_lt32 (by omega) (by decide)
  · omega
theorem crcSteps_lt {s : Nat} (h : s < 4294967296) : ∀ k, crcSteps k s < 4294967296
  | 0 => h
  | k + 1 => crcStep_lt (crcSteps_lt h k)
theorem u8_lt32 (x : UInt8) : x.toNat < 4294967296 := Nat.lt_of_lt_of_le x.toNat_lt (by decide)
theorem crcByte_lt {s : Nat} (h : s < 4294967296) (x : UInt8) : crcByte s x < 4294967296 := crcSteps_lt (xor_lt32 h (u8_lt32 x)) 8
theorem crcInv_lt {s : Nat} (h : s < 4294967296) : crcInv s < 4294967296 := xor_lt32 h (by decide)
theorem fold_lt {s : Nat} (h : s < 4294967296) (b : List UInt8) : b.foldl crcByte s < 4294967296 := by
  induction b generalizing s with
  | nil => exact h
  | cons x b ih => exact ih (crcByte_lt h x)
theorem crcMore_lt {s : Nat} (h : s < 4294967296) (b : List UInt8) : crcMore s b < 4294967296 := crcInv_lt (fold_lt (crcInv_lt h) b)
theorem crcInv_sub {s : Nat} (h : s < 4294967296) : crcInv s = 4294967295 - s := by
  unfold crcInv
  have h1 : s ^^^ (2 ^ 32 - 1) = 2 ^ 32 - 1 - s := by
    apply Nat.eq_of_testBit_eq
    intro i
    rw [Nat.testBit_xor, Nat.testBit_two_pow_sub_one]
    have h2 : 2 ^ 32 - 1 - s = 2 ^ 32 - (s + 1) := by omega
    rw [h2, Nat.testBit_two_pow_sub_succ h]
    by_cases hi : i < 32
    · simp [hi]
    · have : s.testBit i = false := Nat.testBit_lt_two_pow (Nat.lt_of_lt_of_le h (Nat.pow_le_pow_right (n := 2) (i := 32) (by decide) (by omega)))
      simp [hi, this]
  exact h1

/-- The model's bits of two numbers of 32 bits. -/
theorem wraps_u32 (n : Int) (h₀ : 0 ≤ n) (h₁ : n < 2 ^ 32) : IntKind.u32.wrap n = n := by rw [IntKind.wrap_u32]; omega
theorem bits_xor32 {a b : Nat} (ha : a < 4294967296) (hb : b < 4294967296) : bits .xor .u32 (a : Int) (b : Int) = ((a ^^^ b : Nat) : Int) := by
  have h := xor_lt32 ha hb
  have ha' : a % 2 ^ IntKind.u32.bits = a := Nat.mod_eq_of_lt ha
  have hb' : b % 2 ^ IntKind.u32.bits = b := Nat.mod_eq_of_lt hb
  simp only [bits, BitVec.ofInt_natCast, BitVec.toNat_xor, BitVec.toNat_ofNat, ha', hb']
  exact wraps_u32 _ (Int.natCast_nonneg _) (by omega)
theorem bits_and1 {a : Nat} (ha : a < 4294967296) : bits .and .u32 (a : Int) 1 = ((a % 2 : Nat) : Int) := by
  have h := (bits_nat .u32 32 (by decide) wraps_u32 a 1 (by omega) (by decide)).1
  rw [Nat.and_one_is_mod] at h
  exact h

/-! as the reference reckons -/
def rStep (p : Nat × Nat) : Nat × Nat := (if p.1 % 2 ≠ p.2 % 2 then (p.1 / 2) ^^^ 3988292384 else p.1 / 2, p.2 / 2)
theorem xor_mod2 (a b : Nat) : (a ^^^ b) % 2 = 1 ↔ a % 2 ≠ b % 2 := by
  have h1 := Nat.testBit_xor a b 0
  simp only [Nat.testBit_zero] at h1
  have h2 : decide ((a ^^^ b) % 2 = 1) = (decide (a % 2 = 1) != decide (b % 2 = 1)) := by rw [h1]
  rcases Nat.mod_two_eq_zero_or_one a with ha | ha <;> rcases Nat.mod_two_eq_zero_or_one b with hb | hb <;> (try simp [ha, hb] at h2 ⊢) <;> (try omega)
theorem xor_div2 (a b : Nat) : (a ^^^ b) / 2 = (a / 2) ^^^ (b / 2) := by
  have := Nat.shiftRight_xor_distrib (a := a) (b := b) (i := 1)
  simpa [Nat.shiftRight_eq_div_pow] using this
theorem rStep_is (p : Nat × Nat) : (rStep p).1 ^^^ (rStep p).2 = crcStep (p.1 ^^^ p.2) := by
  unfold rStep crcStep
  rw [xor_div2]
  by_cases h : p.1 % 2 ≠ p.2 % 2
  · rw [if_pos h, if_pos ((xor_mod2 _ _).2 h)]
    rw [Nat.xor_assoc, Nat.xor_assoc]
    congr 1
    rw [Nat.xor_comm]
  · rw [if_neg h, if_neg (fun h2 => h ((xor_mod2 _ _).1 h2))]
def rSteps : Nat → Nat × Nat → Nat × Nat
  | 0, p => p
  | k + 1, p => rStep (rSteps k p)
theorem rSteps_is (p : Nat × Nat) : ∀ k, (rSteps k p).1 ^^^ (rSteps k p).2 = crcSteps k (p.1 ^^^ p.2)
  | 0 => rfl
  | k + 1 => by rw [rSteps, rStep_is, rSteps_is p k]; rfl
theorem rSteps_two (p : Nat × Nat) : ∀ k, (rSteps k p).2 = p.2 / 2 ^ k
  | 0 => by simp [rSteps]
  | k + 1 => by
    rw [rSteps]
    show (rSteps k p).2 / 2 = _
    rw [rSteps_two p k, Nat.pow_succ, Nat.div_div_eq_div_mul]
theorem rSteps_byte (s : Nat) (x : UInt8) : (rSteps 8 (s, x.toNat)).1 = crcByte s x := by
  have h1 := rSteps_is (s, x.toNat) 8
  have h2 := rSteps_two (s, x.toNat) 8
  have h3 : x.toNat / 2 ^ 8 = 0 := Nat.div_eq_of_lt x.toNat_lt
  rw [h2, h3, Nat.xor_zero] at h1
  exact h1
theorem rStep_lt {p : Nat × Nat} (h : p.1 < 4294967296) : (rStep p).1 < 4294967296 := by
  unfold rStep
  simp only
  split
  · exact xor_lt32 (by omega) (by decide)
  · omega
theorem rSteps_lt {p : Nat × Nat} (h : p.1 < 4294967296) : ∀ k, (rSteps k p).1 < 4294967296
  | 0 => h
  | k + 1 => rStep_lt (rSteps_lt h k)
end Go.Proofs.Ytolckkckheiceaa
