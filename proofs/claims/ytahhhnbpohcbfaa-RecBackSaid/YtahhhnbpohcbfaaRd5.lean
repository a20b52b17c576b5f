import Derived.Test.YtahhhnbpohcbfaaRd4
import Derived.Test.YtahhhnbpohcbfaaStr0
namespace Go.Proofs.Ytahhhnbpohcbfaa
open Go.RowKit

set_option maxHeartbeats 800000 in
set_option maxRecDepth 100000 in
theorem rdErr_calls (T : Nat → Prop) (g : Nat) (R : RdS) (w : World) (hd : RdAt w T g R) : Calls Try.prog 89 #[.pointer (some ⟨g, 0, none⟩)] w fun en w' => en = .returned (.int .i64 R.e) ∧ w = w' := by
  obtain ⟨hT, hg, A, c, hc, hm, c0, c1, f0, f1, hh, hr⟩ := hd.cells
  clear hd
  go_enter Try.func89, Try.ntmps89
  go_wp2
  go_ret
  exact ⟨rfl, rfl⟩

set_option maxHeartbeats 800000 in
set_option maxRecDepth 100000 in
theorem rdEnd_calls (T : Nat → Prop) (g : Nat) (R : RdS) (w : World) (hd : RdAt w T g R) : Calls Try.prog 69 #[.pointer (some ⟨g, 0, none⟩)] w fun en w' => en = .returned (.int .i64 R.fin) ∧ w = w' := by
  have HD := hid hd
  obtain ⟨hT, hg, A, c, hc, hm, c0, c1, f0, f1, hh, hr⟩ := hd.cells
  clear hd
  by_cases h0 : R.e = 0
  · have e0 : (R.e == (0 : Int)) = true := by rw [beq_iff_eq]; exact h0
    have e1 : (R.e != (0 : Int)) = false := by rw [bne_eq_false_iff_eq]; exact h0
    by_cases hl : 0 < R.b.length
    · have hl2 : (0 : Int) < R.b.length := by omega
      have HV := hid (show R.fin = 3 by unfold RdS.fin; rw [if_neg (by simp [h0]), if_pos hl])
      clear h0
      go_enter Try.func69, Try.ntmps69
      go_wp2_with fail
      refine (rdErr_calls T g R _ HD.out).mono ?_
      rintro e w1 ⟨rfl, rfl⟩
      go_wp2
      go_ret
      exact ⟨ret_int (by rw [HV.out]), rfl⟩
    · have hl2 : ¬ (0 : Int) < R.b.length := by omega
      have HV := hid (show R.fin = 0 by unfold RdS.fin; rw [if_neg (by simp [h0]), if_neg hl])
      clear h0
      go_enter Try.func69, Try.ntmps69
      go_wp2_with fail
      refine (rdErr_calls T g R _ HD.out).mono ?_
      rintro e w1 ⟨rfl, rfl⟩
      go_wp2
      go_ret
      exact ⟨ret_int (by rw [HV.out]), rfl⟩
  · have e0 : (R.e == (0 : Int)) = false := by rw [beq_eq_false_iff_ne]; exact h0
    have e1 : (R.e != (0 : Int)) = true := by rw [bne_iff_ne]; exact h0
    have HV := hid (show R.fin = R.e by unfold RdS.fin; rw [if_pos h0])
    clear h0
    go_enter Try.func69, Try.ntmps69
    go_wp2_with fail
    refine (rdErr_calls T g R _ HD.out).mono ?_
    rintro e w1 ⟨rfl, rfl⟩
    go_wp2
    go_ret
    exact ⟨ret_int (by rw [HV.out]), rfl⟩
end Go.Proofs.Ytahhhnbpohcbfaa
