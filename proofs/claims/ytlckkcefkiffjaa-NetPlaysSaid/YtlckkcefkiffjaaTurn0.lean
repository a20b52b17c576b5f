/- Bits of a text turned, in plain Lean. No Go program in sight. -/
import Derived.Test.YtlckkcefkiffjaaStr0
import Derived.Test.YtlckkcefkiffjaaNet
import Derived.Laws.BitsAllLaws
namespace Go.Proofs.Ytlckkcefkiffjaa
open Go.RowKit Go.Lib

/-- Bit j of a byte turned. -/
def flipB (x : UInt8) (j : Nat) : UInt8 := x ^^^ (1 <<< UInt8.ofNat j)
/-- Bit (at + i) of the bytes behind the first one is turned, if the mask says so and there is one. -/
def turn1 (at_ : Nat) (bits : Nat) (i : Nat) (m : List UInt8) : List UInt8 :=
  if bits.testBit i then match m[1 + (at_ + i) / 8]? with
    | some x => m.set (1 + (at_ + i) / 8) (flipB x ((at_ + i) % 8))
    | none => m
  else m
def turnL (l : List UInt8) (at_ bits : Nat) : Nat → List UInt8
  | 0 => l
  | i + 1 => turn1 at_ bits i (turnL l at_ bits i)
theorem turn1_len (a b i : Nat) (m : List UInt8) : (turn1 a b i m).length = m.length := by
  unfold turn1
  split
  · split
    · exact List.length_set
    · rfl
  · rfl
theorem turnL_len (l : List UInt8) (a b : Nat) : ∀ i, (turnL l a b i).length = l.length
  | 0 => rfl
  | i + 1 => by rw [turnL, turn1_len]; exact turnL_len l a b i
theorem turn1_no {a b i : Nat} {m : List UInt8} (h : b.testBit i = false) : turn1 a b i m = m := by unfold turn1; rw [h]; rfl
theorem turn1_end {a b i : Nat} {m : List UInt8} (h : m.length ≤ 1 + (a + i) / 8) : turn1 a b i m = m := by
  unfold turn1
  rw [List.getElem?_eq_none h]
  split <;> rfl
theorem turn1_yes {a b i : Nat} {m : List UInt8} {x : UInt8} (h : b.testBit i = true) (hx : m[1 + (a + i) / 8]? = some x) : turn1 a b i m = m.set (1 + (a + i) / 8) (flipB x ((a + i) % 8)) := by
  unfold turn1
  rw [h, hx]; rfl
theorem turnL_stop (l : List UInt8) (a b q : Nat) (h : l.length ≤ 1 + (a + q) / 8) : ∀ j, turnL l a b (q + j) = turnL l a b q
  | 0 => rfl
  | j + 1 => by
    rw [← Nat.add_assoc, turnL, turn1_end (by rw [turnL_len]; have : (a + q) / 8 ≤ (a + (q + j)) / 8 := Nat.div_le_div_right (by omega); omega)]
    exact turnL_stop l a b q h j
def turnS (s : ByteArray) (at_ bits : Nat) : ByteArray := mkB (turnL s.data.toList at_ bits 32)

theorem flip_spec : ∀ (x : Fin 256) (j : Fin 8), (flipB (UInt8.ofNat x.val) j.val).toNat = x.val ^^^ (1 <<< j.val) := by decide +kernel
theorem flip_toNat (x : UInt8) (j : Nat) (hj : j < 8) : (flipB x j).toNat = x.toNat ^^^ (1 <<< j) := by
  have := flip_spec ⟨x.toNat, x.toNat_lt⟩ ⟨j, hj⟩
  simpa using this
theorem flip_arith : ∀ (x : Fin 256) (j : Fin 8), (x.val / 2 ^ j.val % 2 = 1 → (flipB (UInt8.ofNat x.val) j.val).toNat + 2 ^ j.val = x.val) ∧ (x.val / 2 ^ j.val % 2 ≠ 1 → (flipB (UInt8.ofNat x.val) j.val).toNat = x.val + 2 ^ j.val) := by decide +kernel
theorem flip_sub (x : UInt8) (j : Nat) (hj : j < 8) (h : x.toNat / 2 ^ j % 2 = 1) : (flipB x j).toNat + 2 ^ j = x.toNat := by
  have := (flip_arith ⟨x.toNat, x.toNat_lt⟩ ⟨j, hj⟩).1 h
  simpa using this
theorem flip_add (x : UInt8) (j : Nat) (hj : j < 8) (h : x.toNat / 2 ^ j % 2 ≠ 1) : (flipB x j).toNat = x.toNat + 2 ^ j := by
  have := (flip_arith ⟨x.toNat, x.toNat_lt⟩ ⟨j, hj⟩).2 h
  simpa using this

/-! ### What a Turn does -/
def NetS.turn (N : NetS) (k at_ : Int) (bits : Nat) : NetS × Int :=
  if k < 0 ∨ (N.l.length : Int) ≤ k then (N, 6)
  else match N.l[k.toNat]? with
    | none => (N, 6)
    | some x => if x.turned then (N, 9)
      else if at_ < 0 ∨ 8 * ((x.s.size : Int) - 1) ≤ at_ then (N, 6)
      else (⟨N.l.set k.toNat ⟨x.f, x.t, turnS x.s at_.toNat bits, true⟩, N.most⟩, 0)
theorem NetS.turn_out {N : NetS} {k : Int} (h : k < 0 ∨ (N.l.length : Int) ≤ k) (a : Int) (b : Nat) : N.turn k a b = (N, 6) := by unfold NetS.turn; rw [if_pos h]
theorem NetS.turn_turned {N : NetS} {k : Nat} {x : ThingS} (hx : N.l[k]? = some x) (h : x.turned = true) (a : Int) (b : Nat) : N.turn k a b = (N, 9) := by
  have hk := (List.getElem?_eq_some_iff.1 hx).1
  unfold NetS.turn
  rw [if_neg (by omega), Int.toNat_natCast, hx]
  simp only
  rw [if_pos h]
theorem NetS.turn_range {N : NetS} {k : Nat} {x : ThingS} (hx : N.l[k]? = some x) (h : x.turned = false) {a : Int} (ha : a < 0 ∨ 8 * ((x.s.size : Int) - 1) ≤ a) (b : Nat) : N.turn k a b = (N, 6) := by
  have hk := (List.getElem?_eq_some_iff.1 hx).1
  unfold NetS.turn
  rw [if_neg (by omega), Int.toNat_natCast, hx]
  simp only
  rw [if_neg (by rw [h]; decide), if_pos ha]
theorem NetS.turn_yes {N : NetS} {k : Nat} {x : ThingS} (hx : N.l[k]? = some x) (h : x.turned = false) {a : Nat} (ha : (a : Int) < 8 * ((x.s.size : Int) - 1)) (b : Nat) : N.turn k a b = (⟨N.l.set k ⟨x.f, x.t, turnS x.s a b, true⟩, N.most⟩, 0) := by
  have hk := (List.getElem?_eq_some_iff.1 hx).1
  unfold NetS.turn
  rw [if_neg (by omega), Int.toNat_natCast, hx]
  simp only
  rw [if_neg (by rw [h]; decide), if_neg (by omega), Int.toNat_natCast]

/-! ### the program's words on numbers -/
theorem bit_test32 {t j : Nat} (ht : t < 4294967296) : (bits .and .u32 ((t : Int) / 2 ^ j) 1 == 1) = t.testBit j := by
  have e : ((t : Int) / 2 ^ j) = ((t / 2 ^ j : Nat) : Int) := by simp
  rw [e, show (1 : Int) = ((1 : Nat) : Int) from rfl, u32_and_nat _ _ (Nat.lt_of_le_of_lt (Nat.div_le_self _ _) (by omega)) (by omega), Nat.testBit_eq_decide_div_mod_eq]
  rw [Nat.and_one_is_mod]
  rw [Bool.eq_iff_iff, beq_iff_eq, decide_eq_true_iff]
  generalize t / 2 ^ j = q
  omega
theorem xor_flip {x : UInt8} {j : Nat} (hj : j < 8) : bits .xor .u8 (x.toNat : Int) (IntKind.u8.wrap (2 ^ j)) = ((flipB x j).toNat : Int) := by
  have hp : 2 ^ j < 256 := Nat.pow_lt_pow_right (by decide) hj
  have e : IntKind.u8.wrap (2 ^ j) = ((1 <<< j : Nat) : Int) := by
    rw [Nat.one_shiftLeft, IntKind.wrap_u8]
    have e : ((2 : Int) ^ j) = ((2 ^ j : Nat) : Int) := by simp
    rw [e]
    generalize 2 ^ j = q at *
    omega
  rw [e, u8_xor_nat _ _ x.toNat_lt (by rw [Nat.one_shiftLeft]; exact hp), flip_toNat x j hj]
end Go.Proofs.Ytlckkcefkiffjaa
