/- siskinref05.Bit, Has. -/
import Derived.Test.YtolckkckheiceaaProg
import Derived.Test.YtolckkckheiceaaLib
namespace Go.Proofs.Ytolckkckheiceaa
open Go.RowKit

/-! ### siskinref05 -/
set_option maxHeartbeats 400000 in
set_option maxRecDepth 100000 in
theorem rbit_calls (k : Nat) (w : World) (hk : k < 64) :
    Calls Try.prog 63 #[.int .i64 k] w fun e w' => e = .returned (.int .u64 ((1 <<< k : Nat) : Int)) ∧ w = w' := by
  go_enter Try.func63, Try.ntmps63
  go_wp2
  go_loop [3, 4] (fun x i => ∃ j : Nat, j ≤ k ∧ i = .int .i64 j ∧ x = .int .u64 ((1 <<< j : Nat) : Int)) (fun _ i => k - (intOf i).toNat)
  case atStart => exact ⟨0, by omega, rfl, rfl⟩
  case round =>
    obtain ⟨j, hj, rfl, rfl⟩ := hrel
    by_cases hlt : j < k
    · have hp := pow_lt64 (show j + 1 < 64 by omega)
      have hs : (1 <<< (j + 1) : Nat) = (1 <<< j) * 2 := by rw [Nat.one_shiftLeft, Nat.one_shiftLeft, Nat.pow_succ]
      have hb : (1 <<< j : Nat) * 2 < 18446744073709551616 := by rw [← hs, Nat.one_shiftLeft]; omega
      have HS := hid hs
      clear hs hp
      generalize hq : (1 <<< j : Nat) = q at *
      clear hq
      go_wp2
      go_round
      case rel => exact ⟨j + 1, by omega, by go_num, by rw [HS.out]; go_num⟩
      case measure => simp [intOf]; omega
    · obtain rfl : j = k := by omega
      go_wp2
      go_ret
      exact ⟨rfl, rfl⟩

def hasB (t : Nat) (k : Int) : Bool := decide (0 ≤ k ∧ k < 64) && t.testBit k.toNat

set_option maxHeartbeats 400000 in
set_option maxRecDepth 100000 in
theorem rhas_calls (t : Nat) (k : Int) (w : World) (ht : t < 2 ^ 64) :
    Calls Try.prog 17 #[.int .u64 t, .int .i64 k] w fun e w' => e = .returned (.bool (hasB t k)) ∧ w = w' := by
  by_cases h0 : 0 ≤ k
  · by_cases h1 : k < 64
    · obtain ⟨j, rfl⟩ := Int.eq_ofNat_of_zero_le h0
      have hj : j < 64 := by omega
      have hq : 1 ≤ (1 <<< j : Nat) := by rw [Nat.one_shiftLeft]; exact Nat.one_le_two_pow
      have hv := hid (show hasB t j = t.testBit j by simp [hasB]; omega)
      have h2 : ((t : Int) / ((1 <<< j : Nat) : Int) % 2 == 1) = t.testBit j := by
        rw [Nat.one_shiftLeft, Nat.testBit_eq_decide_div_mod_eq, Bool.eq_iff_iff, beq_iff_eq, decide_eq_true_iff]
        rw [← Int.natCast_ediv]
        generalize t / 2 ^ j = q
        omega
      go_enter Try.func17, Try.ntmps17
      go_wp2_with fail
      refine (rbit_calls j _ hj).mono ?_
      rintro e w1 ⟨rfl, rfl⟩
      generalize hqq : (1 <<< j : Nat) = q at *
      clear hqq
      have h3 : 0 ≤ (t : Int) / (q : Int) := Int.ediv_nonneg (by omega) (by omega)
      have h4 : (t : Int) / (q : Int) ≤ 18446744073709551615 := Int.le_trans (Int.ediv_le_self _ (by omega)) (by omega)
      go_wp2
      go_ret
      exact ⟨by rw [hv.out]; rfl, rfl⟩
    · have hv := hid (show hasB t k = false by simp [hasB]; omega)
      go_enter Try.func17, Try.ntmps17
      go_wp2
      go_ret
      exact ⟨by rw [hv.out]; rfl, rfl⟩
  · have hv := hid (show hasB t k = false by simp [hasB]; omega)
    go_enter Try.func17, Try.ntmps17
    go_wp2
    go_ret
    exact ⟨by rw [hv.out]; rfl, rfl⟩

theorem add_bit {t j : Nat} (ht : t < 2 ^ 64) (hj : j < 64) (h : t.testBit j = false) : t ||| 1 <<< j = t + 1 <<< j := by
  rw [Nat.one_shiftLeft]
  have hp := pow_lt64 hj
  have hd : t &&& 2 ^ j = 0 := by
    apply Nat.eq_of_testBit_eq
    intro i
    rw [Nat.testBit_and, Nat.testBit_two_pow, Nat.zero_testBit]
    by_cases e : j = i
    · subst e; simp [h]
    · simp [e]
  have hb : (BitVec.ofNat 65 t) &&& (BitVec.ofNat 65 (2 ^ j)) = 0#65 := by
    apply BitVec.eq_of_toNat_eq
    rw [BitVec.toNat_and, BitVec.toNat_ofNat, BitVec.toNat_ofNat, Nat.mod_eq_of_lt (by omega), Nat.mod_eq_of_lt (by omega), hd]
    rfl
  have hc := congrArg BitVec.toNat (BitVec.add_eq_or_of_and_eq_zero _ _ hb)
  rw [BitVec.toNat_add, BitVec.toNat_or, BitVec.toNat_ofNat, BitVec.toNat_ofNat, Nat.mod_eq_of_lt (show t < 2 ^ 65 by omega), Nat.mod_eq_of_lt (show 2 ^ j < 2 ^ 65 by omega), Nat.mod_eq_of_lt (by omega)] at hc
  exact hc.symm
theorem or_bit_same {t j : Nat} (h : t.testBit j = true) : t ||| 1 <<< j = t := by
  rw [Nat.one_shiftLeft]
  apply Nat.eq_of_testBit_eq
  intro i
  rw [Nat.testBit_or, Nat.testBit_two_pow]
  by_cases e : j = i
  · subst e; simp [h]
  · simp [e]

end Go.Proofs.Ytolckkckheiceaa
