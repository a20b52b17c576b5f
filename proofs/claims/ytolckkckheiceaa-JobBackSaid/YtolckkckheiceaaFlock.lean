/- flock.is, Has, With. -/
import Derived.Test.YtolckkckheiceaaNeed0
namespace Go.Proofs.Ytolckkckheiceaa
open Go.RowKit

set_option maxHeartbeats 1000000 in
set_option maxRecDepth 100000 in
theorem is_calls (k : Int) (w : World) : Calls Try.prog 177 #[.int .i64 k] w fun e w' => e = .returned (.bool (decide (0 ≤ k) && decide (k < 64))) ∧ w = w' := by
  go_enter Try.func177, Try.ntmps177
  go_wp2
  all_goals (go_ret; exact ⟨ret_bool (by rw [Bool.eq_iff_iff]; simp; try omega), rfl⟩)
set_option maxHeartbeats 1000000 in
set_option maxRecDepth 100000 in
theorem has_calls (s : Nat) (k : Int) (w : World) (hs : s < 2 ^ 64) : Calls Try.prog 156 #[.int .u64 s, .int .i64 k] w fun e w' => e = .returned (.bool (TreeS.hasB s k)) ∧ w = w' := by
  by_cases h : 0 ≤ k ∧ k < 64
  · obtain ⟨j, rfl⟩ : ∃ j : Nat, k = j := ⟨k.toNat, by omega⟩
    have hd : (decide (0 ≤ (j : Int)) && decide ((j : Int) < 64)) = true := by simp; omega
    have hj : j < 64 := by omega
    have HB := hid (show TreeS.hasB s j = s.testBit j by unfold TreeS.hasB; rw [hd]; simp)
    have HD := hid hd
    have h1 := bit_test (j := j) hs
    clear h hd
    go_enter Try.func156, Try.ntmps156
    go_wp2_with fail
    refine (is_calls j w).mono ?_
    rintro e w1 ⟨rfl, rfl⟩
    rw [HD.out]
    cases hb : s.testBit j
    · rw [hb] at h1
      go_wp2
      go_ret
      exact ⟨ret_bool (by rw [HB.out, hb]), rfl⟩
    · rw [hb] at h1
      go_wp2
      go_ret
      exact ⟨ret_bool (by rw [HB.out, hb]), rfl⟩
  · have hd : (decide (0 ≤ k) && decide (k < 64)) = false := by simp; omega
    have HB := hid (show TreeS.hasB s k = false by unfold TreeS.hasB; rw [hd]; rfl)
    have HD := hid hd
    clear h hd
    go_enter Try.func156, Try.ntmps156
    go_wp2_with fail
    refine (is_calls k w).mono ?_
    rintro e w1 ⟨rfl, rfl⟩
    rw [HD.out]
    go_wp2
    go_ret
    exact ⟨ret_bool HB.out.symm, rfl⟩
/-- A set with k. -/
def withS (s k : Nat) : Nat := s ||| 1 <<< k
set_option maxHeartbeats 1000000 in
set_option maxRecDepth 100000 in
theorem with_calls (s k : Nat) (w : World) (hs : s < 2 ^ 64) (hk : k < 64) : Calls Try.prog 133 #[.int .u64 s, .int .i64 k] w fun e w' => e = .returned (.int .u64 (withS s k : Nat)) ∧ w = w' := by
  have HD := hid (show (decide (0 ≤ (k : Int)) && decide ((k : Int) < 64)) = true by simp; omega)
  have hor := or_bit (j := k) hs hk
  go_enter Try.func133, Try.ntmps133
  go_wp2_with fail
  refine (is_calls k w).mono ?_
  rintro e w1 ⟨rfl, rfl⟩
  rw [HD.out]
  go_wp2
  go_ret
  exact ⟨ret_int (by first | rfl | simp [withS] | skip), rfl⟩
end Go.Proofs.Ytolckkckheiceaa
