/- siskinref39.Long: are jobs more than are looked at, or longer? -/
import Derived.Test.YtgedkcglkhleoaaGreatDoorEvent1
import Derived.Test.YtgedkcglkhleoaaGreatDoorBase
namespace Go.Proofs.YtgedkcglkhleoaaGreatDoor
open Go.RowKit

def longJ (J : JobS) : Bool := longB J.needs 20 300
def longJs (js : List JobS) : Bool := js.any longJ || decide (20 < js.length)
set_option maxHeartbeats 4000000 in
set_option maxRecDepth 100000 in
theorem rlong39_calls (js : List JobS) (v : Value) (w : World) (hj : Kd.job.slice.K w Any js [v]) :
    Calls Tryz.prog 6 #[v] w fun e w' => e = .returned (.bool (longJs js)) ∧ w = w' := by
  obtain ⟨A, c, he, hc, hm, hr⟩ := hj
  cases he
  have HR := hid hr
  obtain ⟨q, hq⟩ : ∃ q, js.length = q := ⟨_, rfl⟩
  have HQ := hid hq
  rw [hq] at hc hm ⊢
  clear hr hq
  go_enter Tryz.func6, Tryz.ntmps6
  go_wp2
  go_loop [3] (fun i => ∃ k : Nat, k ≤ q ∧ i = .int .i64 k ∧ Hid ((js.take k).any longJ = false)) (fun i => q - (intOf i).toNat)
  case atStart => exact ⟨0, by omega, rfl, rfl⟩
  case round =>
    obtain ⟨k, hk, rfl, HN⟩ := hrel
    by_cases hlt : k < q
    · obtain ⟨a, J, JA, jc, rfl, hx, k1, r0, r1⟩ := HR.out.at_job k (by rw [HQ.out]; exact hlt)
      have HX := hid hx
      have hltI : (k : Int) < (q : Int) := by omega
      have hk0 : (0 : Int) ≤ (k : Int) := by omega
      have HK := hid k1
      have HSN := hid (show (js.take (k + 1)).any longJ = longB J.needs 20 300 by rw [take_snoc HX.out, List.any_append, HN.out]; simp [longJ])
      have HYES := hid (fun h : longB J.needs 20 300 = true => show longJs js = true by unfold longJs; rw [Bool.or_eq_true]; left; exact List.any_eq_true.2 ⟨J, List.mem_of_getElem? HX.out, h⟩)
      clear hx k1 r0
      go_wp2_with fail
      refine (long_calls J.needs 20 300 _ _ HK.out).mono ?_
      rintro e w1 ⟨rfl, rfl⟩
      cases hlb : longB J.needs 20 300
      case true =>
        have HF := hid (HYES.out hlb)
        clear hlb
        go_wp2
        go_ret
        rw [HF.out]
        exact ⟨rfl, rfl⟩
      rw [hlb] at HSN
      clear hlb
      go_wp2
      go_round
      case rel => exact ⟨k + 1, by omega, by go_num, HSN⟩
      case measure => simp [intOf]; omega
    · obtain rfl : k = q := by omega
      have HF := hid (show longJs js = decide (20 < k) by unfold longJs; rw [HQ.out, ← List.take_of_length_le (l := js) (i := k) (by rw [HQ.out]; exact Nat.le_refl _), HN.out]; rfl)
      by_cases h20 : 20 < k
      · have hI : (20 : Int) < (k : Int) := by omega
        have HT := hid (decide_eq_true h20)
        go_wp2
        go_ret
        rw [HF.out, HT.out]
        exact ⟨rfl, rfl⟩
      · have hI : ¬ (20 : Int) < (k : Int) := by omega
        have HT := hid (decide_eq_false h20)
        go_wp2
        go_ret
        rw [HF.out, HT.out]
        exact ⟨rfl, rfl⟩
end Go.Proofs.YtgedkcglkhleoaaGreatDoor
