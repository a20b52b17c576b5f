import Derived.Test.YtkjncmmombkllaaGreatFrame
import Derived.Deep.RegionHeld3
namespace Go.Proofs.YtkjncmmombkllaaGreat
open Go.RowKit

structure RecS where
  kind : Int
  job : Int
  task : Int
  worker : Int
  sched : Int
  epoch : Int
  needs : List ByteArray
deriving DecidableEq
def fieldsF (k : Int) : Int := if k = 1 then 20 else if k = 2 then 11 else if k = 3 then 1 else if k = 4 then 12 else 0
def fieldsOk (k : Int) : Bool := decide (1 ≤ k ∧ k ≤ 4)
def hasF (k b : Int) : Bool := bits .and .i64 (fieldsF k) b != 0
def inB (t : Bool) (n lo hi : Int) : Bool := if t then decide (lo ≤ n ∧ n ≤ hi) else decide (n = 0)
def recOk (x : RecS) : Bool := fieldsOk x.kind && decide (1 ≤ x.job ∧ x.job ≤ 72057594037927935) && inB (hasF x.kind 1) x.task 0 15 && inB (hasF x.kind 2) x.worker 0 63 && inB (hasF x.kind 4) x.sched 0 7 &&
  inB (hasF x.kind 8) x.epoch 1 9 && inB (hasF x.kind 16) x.needs.length 1 16 && x.needs.all (fun s => decide ((s.size : Int) ≤ 200))

set_option maxHeartbeats 800000 in
set_option maxRecDepth 100000 in
theorem fields_calls (k : Int) (w : World) : Calls Tryz.prog 70 #[.int .i64 k] w fun e w' => e = .returned (.tuple #[.int .i64 (fieldsF k), .bool (fieldsOk k)]) ∧ w = w' := by
  by_cases h : k = 1 ∨ k = 2 ∨ k = 3 ∨ k = 4
  · rcases h with rfl | rfl | rfl | rfl
    all_goals
      go_enter Tryz.func70, Tryz.ntmps70
      go_wp2
      go_ret2
      exact ⟨rfl, rfl⟩
  · have h1 : (k == 1) = false := by rw [beq_eq_false_iff_ne]; omega
    have h2 : (k == 2) = false := by rw [beq_eq_false_iff_ne]; omega
    have h3 : (k == 3) = false := by rw [beq_eq_false_iff_ne]; omega
    have h4 : (k == 4) = false := by rw [beq_eq_false_iff_ne]; omega
    have HV := hid (show fieldsF k = 0 ∧ fieldsOk k = false by unfold fieldsF fieldsOk; exact ⟨by rw [if_neg (by omega), if_neg (by omega), if_neg (by omega), if_neg (by omega)], by rw [decide_eq_false_iff_not]; omega⟩)
    clear h
    go_enter Tryz.func70, Tryz.ntmps70
    go_wp2
    go_ret2
    rw [HV.out.1, HV.out.2]
    exact ⟨rfl, rfl⟩

set_option maxHeartbeats 800000 in
set_option maxRecDepth 100000 in
theorem in_calls (t : Bool) (n lo hi : Int) (w : World) : Calls Tryz.prog 71 #[.bool t, .int .i64 n, .int .i64 lo, .int .i64 hi] w fun e w' => e = .returned (.bool (inB t n lo hi)) ∧ w = w' := by
  have HV := hid (show inB t n lo hi = if t then decide (lo ≤ n ∧ n ≤ hi) else decide (n = 0) from rfl)
  cases t
  · go_enter Tryz.func71, Tryz.ntmps71
    go_wp2
    go_ret
    exact ⟨ret_bool (by rw [HV.out, Bool.eq_iff_iff]; simp), rfl⟩
  · go_enter Tryz.func71, Tryz.ntmps71
    go_wp2
    all_goals
      go_ret
      exact ⟨ret_bool (by rw [HV.out, Bool.eq_iff_iff]; simp; try omega), rfl⟩

theorem bits_ne (k b : Int) : (bits .and .i64 (fieldsF k) b != 0) = hasF k b ∧ (bits .and .i64 (fieldsF k) b == 0) = !hasF k b := ⟨rfl, by unfold hasF; simp [bne]⟩

set_option maxHeartbeats 3200000 in
set_option maxRecDepth 100000 in
theorem recCheck_calls (x : RecS) (A : Option Addr) (n c : Nat) (w : World) (hn : Kd.str.slice.K w Any x.needs [.slice A n c]) :
    Calls Tryz.prog 52 #[.agg #[.int .i64 x.kind, .int .i64 x.job, .int .i64 x.task, .int .i64 x.worker, .int .i64 x.sched, .int .i64 x.epoch, .slice A n c]] w fun e w' => e = .returned (.bool (recOk x)) ∧ Below w.heap.size w w' := by
  obtain ⟨A', c', he, hc, hm, hr⟩ := hn
  have hnl : x.needs.length = n := by injection he with h; injection h with _ h _; exact h.symm
  have hr2 : Kd.str.Row w Any A x.needs := by cases he; exact hr
  have hnm : n ≤ 140737488355328 := by omega
  have HR := hid hr2
  have HN := hid hnl
  have HD := hid (show recOk x = (fieldsOk x.kind && decide (1 ≤ x.job ∧ x.job ≤ 72057594037927935) && inB (hasF x.kind 1) x.task 0 15 && inB (hasF x.kind 2) x.worker 0 63 && inB (hasF x.kind 4) x.sched 0 7 && inB (hasF x.kind 8) x.epoch 1 9 && inB (hasF x.kind 16) n 1 16 && x.needs.all (fun s => decide ((s.size : Int) ≤ 200))) by unfold recOk; rw [hnl])
  clear he hc hm hr hr2 hnl
  have F0 := fields_calls x.kind
  obtain ⟨b0, d0⟩ := bits_ne x.kind 1
  obtain ⟨b1, d1⟩ := bits_ne x.kind 2
  obtain ⟨b2, d2⟩ := bits_ne x.kind 4
  obtain ⟨b3, d3⟩ := bits_ne x.kind 8
  obtain ⟨b4, d4⟩ := bits_ne x.kind 16
  have HF := hid F0
  clear F0
  obtain ⟨F, hF⟩ : ∃ F, F = fieldsF x.kind := ⟨_, rfl⟩
  have HFF := hid hF
  rw [← hF] at HF b0 b1 b2 b3 b4 d0 d1 d2 d3 d4
  clear hF
  go_enter Tryz.func52, Tryz.ntmps52
  go_wp2_with fail
  refine (HF.out _).mono ?_
  rintro e w1 ⟨rfl, rfl⟩
  cases hok : fieldsOk x.kind
  · have HV := hid (show recOk x = false by rw [HD.out, hok]; simp)
    clear hok
    go_wp2
    go_ret
    exact ⟨ret_bool (by rw [HV.out]), bAlloc (Below.refl _ _) _⟩
  by_cases hj : 1 ≤ x.job
  case neg =>
    have HV := hid (show recOk x = false by rw [HD.out, show decide (1 ≤ x.job ∧ x.job ≤ 72057594037927935) = false by rw [decide_eq_false_iff_not]; omega]; simp)
    clear hok
    go_wp2
    go_ret
    exact ⟨ret_bool (by rw [HV.out]), bAlloc (Below.refl _ _) _⟩
  by_cases hj2 : x.job ≤ 72057594037927935
  case neg =>
    have HV := hid (show recOk x = false by rw [HD.out, show decide (1 ≤ x.job ∧ x.job ≤ 72057594037927935) = false by rw [decide_eq_false_iff_not]; omega]; simp)
    clear hok
    go_wp2
    go_ret
    exact ⟨ret_bool (by rw [HV.out]), bAlloc (Below.refl _ _) _⟩
  have HOK := hid hok
  have HJ := hid (show decide (1 ≤ x.job ∧ x.job ≤ 72057594037927935) = true by rw [decide_eq_true_iff]; omega)
  clear hok
  go_wp2_with fail
  refine (in_calls (hasF x.kind 1) x.task 0 15 _).mono ?_
  rintro e w1 ⟨rfl, rfl⟩
  cases hi : inB (hasF x.kind 1) x.task 0 15
  · have HV := hid (show recOk x = false by rw [HD.out, hi]; simp)
    clear hi
    go_wp2
    go_ret
    exact ⟨ret_bool (by rw [HV.out]), bAlloc (Below.refl _ _) _⟩
  have HI0 := hid hi
  clear hi b0 d0
  go_wp2_with fail
  refine (in_calls (hasF x.kind 2) x.worker 0 63 _).mono ?_
  rintro e w1 ⟨rfl, rfl⟩
  cases hi : inB (hasF x.kind 2) x.worker 0 63
  · have HV := hid (show recOk x = false by rw [HD.out, hi]; simp)
    clear hi
    go_wp2
    go_ret
    exact ⟨ret_bool (by rw [HV.out]), bAlloc (Below.refl _ _) _⟩
  have HI1 := hid hi
  clear hi b1 d1
  go_wp2_with fail
  refine (in_calls (hasF x.kind 4) x.sched 0 7 _).mono ?_
  rintro e w1 ⟨rfl, rfl⟩
  cases hi : inB (hasF x.kind 4) x.sched 0 7
  · have HV := hid (show recOk x = false by rw [HD.out, hi]; simp)
    clear hi
    go_wp2
    go_ret
    exact ⟨ret_bool (by rw [HV.out]), bAlloc (Below.refl _ _) _⟩
  have HI2 := hid hi
  clear hi b2 d2
  go_wp2_with fail
  refine (in_calls (hasF x.kind 8) x.epoch 1 9 _).mono ?_
  rintro e w1 ⟨rfl, rfl⟩
  cases hi : inB (hasF x.kind 8) x.epoch 1 9
  · have HV := hid (show recOk x = false by rw [HD.out, hi]; simp)
    clear hi
    go_wp2
    go_ret
    exact ⟨ret_bool (by rw [HV.out]), bAlloc (Below.refl _ _) _⟩
  have HI3 := hid hi
  clear hi b3 d3
  go_wp2_with fail
  refine (in_calls (hasF x.kind 16) (n : Int) 1 16 _).mono ?_
  rintro e w1 ⟨rfl, rfl⟩
  cases hi : inB (hasF x.kind 16) (n : Int) 1 16
  · have HV := hid (show recOk x = false by rw [HD.out, hi]; simp)
    clear hi
    go_wp2
    go_ret
    exact ⟨ret_bool (by rw [HV.out]), bAlloc (Below.refl _ _) _⟩
  have HI4 := hid hi
  clear hi b4 d4
  have HV := hid (show recOk x = x.needs.all (fun s => decide ((s.size : Int) ≤ 200)) by rw [HD.out, HOK.out, HJ.out, HI0.out, HI1.out, HI2.out, HI3.out, HI4.out]; rfl)
  clear HD HOK HJ HI0 HI1 HI2 HI3 HI4 HF
  go_wp2_with fail
  go_loopw [74] (fun i wr => ∃ k : Nat, k ≤ n ∧ i = .int .i64 k ∧ Hid ((x.needs.take k).all (fun s => decide ((s.size : Int) ≤ 200)) = true) ∧ Below w.heap.size w wr) (fun i _ => n - (intOf i).toNat)
  case atStart => exact ⟨0, by omega, rfl, hid rfl, bAlloc (Below.refl _ _) _⟩
  case round =>
    obtain ⟨k, hk, rfl, HA, hb⟩ := hrel
    by_cases hlt : k < n
    · obtain ⟨a, s, rfl, hs, hcs⟩ := Kd.Row.at_str (HR.out.below hb) k (by rw [HN.out]; exact hlt)
      have HS := hid hs
      clear hs
      by_cases hsz : (200 : Int) < s.size
      · have HV2 := hid (show recOk x = false by rw [HV.out, List.all_eq_false]; exact ⟨s, List.mem_of_getElem? HS.out, by simp; omega⟩)
        go_wp2
        go_ret
        exact ⟨ret_bool (by rw [HV2.out]), hb⟩
      · have HA2 := hid (show (x.needs.take (k + 1)).all (fun s => decide ((s.size : Int) ≤ 200)) = true by rw [take_snoc HS.out, List.all_append, HA.out]; simp; omega)
        go_wp2
        go_roundw
        case rel => exact ⟨k + 1, by omega, by go_num, HA2, hb⟩
        case measure => simp [intOf]; omega
    · obtain rfl : k = n := by omega
      have HV2 := hid (show recOk x = true by rw [HV.out]; have := HA.out; rwa [← HN.out, List.take_length] at this)
      go_wp2
      go_ret
      exact ⟨ret_bool (by rw [HV2.out]), hb⟩
end Go.Proofs.YtkjncmmombkllaaGreat
