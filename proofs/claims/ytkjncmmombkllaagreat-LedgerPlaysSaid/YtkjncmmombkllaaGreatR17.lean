import Derived.Test.YtkjncmmombkllaaGreatR02
import Derived.Test.YtkjncmmombkllaaGreatRecS
import Derived.Test.YtkjncmmombkllaaGreatBase
namespace Go.Proofs.YtkjncmmombkllaaGreat
open Go.RowKit Go.Lib

theorem hasF_other {k : Int} (h : ¬ (1 ≤ k ∧ k ≤ 4)) (b : Nat) (hb : b < 5) : hasF k (2 ^ b) = false := by
  have h0 : fieldsF k = 0 := by unfold fieldsF; rw [if_neg (by omega), if_neg (by omega), if_neg (by omega), if_neg (by omega)]
  unfold hasF
  rw [h0]
  match b, hb with
  | 0, _ => decide +kernel
  | 1, _ => decide +kernel
  | 2, _ => decide +kernel
  | 3, _ => decide +kernel
  | 4, _ => decide +kernel

set_option maxHeartbeats 6400000 in
set_option maxRecDepth 100000 in
theorem rhas17_calls (k : Int) (b : Nat) (f : Int) (w : World) (hb : b < 5) (hf : f = (b : Int) + 1) : Calls Tryz.prog 83 #[.int .i64 k, .int .i64 f] w fun e w' => e = .returned (.bool (hasF k (2 ^ b))) ∧ w = w' := by
  subst hf
  by_cases hk : 1 ≤ k ∧ k ≤ 4
  · have hk' : k = 1 ∨ k = 2 ∨ k = 3 ∨ k = 4 := by omega
    have hb' : b = 0 ∨ b = 1 ∨ b = 2 ∨ b = 3 ∨ b = 4 := by omega
    clear hk hb
    rcases hk' with rfl | rfl | rfl | rfl <;> rcases hb' with rfl | rfl | rfl | rfl | rfl
    all_goals
      go_enter Tryz.func83, Tryz.ntmps83
      go_wp2
      go_ret
      exact ⟨ret_bool (by decide +kernel), rfl⟩
  · have h1 : (k == 1) = false := by rw [beq_eq_false_iff_ne]; omega
    have h2 : (k == 2) = false := by rw [beq_eq_false_iff_ne]; omega
    have h3 : (k == 3) = false := by rw [beq_eq_false_iff_ne]; omega
    have h4 : (k == 4) = false := by rw [beq_eq_false_iff_ne]; omega
    have HV := hid (hasF_other hk b hb)
    clear hk
    go_enter Tryz.func83, Tryz.ntmps83
    go_wp2
    go_ret
    exact ⟨ret_bool (by rw [HV.out]), rfl⟩

set_option maxHeartbeats 800000 in
set_option maxRecDepth 100000 in
theorem rin17_calls (k : Int) (b : Nat) (f n lo hi : Int) (w : World) (hb : b < 5) (hf : f = (b : Int) + 1) : Calls Tryz.prog 80 #[.int .i64 k, .int .i64 f, .int .i64 n, .int .i64 lo, .int .i64 hi] w fun e w' => e = .returned (.bool (inB (hasF k (2 ^ b)) n lo hi)) ∧ w = w' := by
  obtain ⟨t, ht⟩ : ∃ t, t = hasF k (2 ^ b) := ⟨_, rfl⟩
  rw [← ht]
  have HV := hid (show inB t n lo hi = if t then decide (lo ≤ n ∧ n ≤ hi) else decide (n = 0) from rfl)
  have HB := hid hb
  have HF := hid hf
  have HT := hid ht
  clear hb hf ht
  go_enter Tryz.func80, Tryz.ntmps80
  go_wp2_with fail
  refine (rhas17_calls k b f _ HB.out HF.out).mono ?_
  rintro e w1 ⟨rfl, rfl⟩
  rw [← HT.out]
  clear HT
  cases t
  · go_wp2
    go_ret
    exact ⟨ret_bool (by rw [HV.out, Bool.eq_iff_iff]; simp), rfl⟩
  · go_wp2
    all_goals
      go_ret
      exact ⟨ret_bool (by rw [HV.out, Bool.eq_iff_iff]; simp; try omega), rfl⟩

theorem long_needs {l : List ByteArray} : longB l 16 200 = false ↔ (∀ s ∈ l, s.size ≤ 200) ∧ l.length ≤ 16 := by
  simp only [longB, Bool.or_eq_false_iff, List.any_eq_false, decide_eq_true_eq, decide_eq_false_iff_not]
  constructor
  · rintro ⟨h1, h2⟩
    exact ⟨fun s hs => by have := h1 s hs; omega, by omega⟩
  · rintro ⟨h1, h2⟩
    exact ⟨fun s hs => by have := h1 s hs; omega, by omega⟩
theorem recOk_long {x : RecS} (h : recOk x = true) : longB x.needs 16 200 = false := by
  obtain ⟨h1, h2⟩ := recOk_needs h
  exact long_needs.2 ⟨h2, h1⟩

set_option maxHeartbeats 6400000 in
set_option maxRecDepth 100000 in
theorem rcheck17_calls (x : RecS) (A : Option Addr) (n c : Nat) (w : World) (hn : Kd.str.slice.K w Any x.needs [.slice A n c]) :
    Calls Tryz.prog 62 #[.agg #[.int .i64 x.kind, .int .i64 x.job, .int .i64 x.task, .int .i64 x.worker, .int .i64 x.sched, .int .i64 x.epoch, .slice A n c]] w fun e w' => e = .returned (.bool (recOk x)) ∧ Below w.heap.size w w' := by
  have HK := hid hn
  obtain ⟨A', c', he, hc, hm, hr⟩ := hn
  have hnl : x.needs.length = n := by injection he with h; injection h with _ h _; exact h.symm
  have hnm : n ≤ 140737488355328 := by omega
  have HD := hid (show recOk x = (fieldsOk x.kind && decide (1 ≤ x.job ∧ x.job ≤ 72057594037927935) && inB (hasF x.kind 1) x.task 0 15 && inB (hasF x.kind 2) x.worker 0 63 && inB (hasF x.kind 4) x.sched 0 7 && inB (hasF x.kind 8) x.epoch 1 9 && inB (hasF x.kind 16) n 1 16 && x.needs.all (fun s => decide ((s.size : Int) ≤ 200))) by unfold recOk; rw [hnl])
  clear he hc hm hr hnl
  by_cases hk : 1 ≤ x.kind
  case neg =>
    have HV := hid (show recOk x = false by rw [HD.out, show fieldsOk x.kind = false by unfold fieldsOk; rw [decide_eq_false_iff_not]; omega]; simp)
    go_enter Tryz.func62, Tryz.ntmps62
    go_wp2
    go_ret
    exact ⟨ret_bool (by rw [HV.out]), bAlloc (Below.refl _ _) _⟩
  by_cases hk2 : x.kind ≤ 4
  case neg =>
    have HV := hid (show recOk x = false by rw [HD.out, show fieldsOk x.kind = false by unfold fieldsOk; rw [decide_eq_false_iff_not]; omega]; simp)
    go_enter Tryz.func62, Tryz.ntmps62
    go_wp2
    go_ret
    exact ⟨ret_bool (by rw [HV.out]), bAlloc (Below.refl _ _) _⟩
  by_cases hj : 1 ≤ x.job
  case neg =>
    have HV := hid (show recOk x = false by rw [HD.out, show decide (1 ≤ x.job ∧ x.job ≤ 72057594037927935) = false by rw [decide_eq_false_iff_not]; omega]; simp)
    go_enter Tryz.func62, Tryz.ntmps62
    go_wp2
    go_ret
    exact ⟨ret_bool (by rw [HV.out]), bAlloc (Below.refl _ _) _⟩
  by_cases hj2 : x.job ≤ 72057594037927935
  case neg =>
    have HV := hid (show recOk x = false by rw [HD.out, show decide (1 ≤ x.job ∧ x.job ≤ 72057594037927935) = false by rw [decide_eq_false_iff_not]; omega]; simp)
    go_enter Tryz.func62, Tryz.ntmps62
    go_wp2
    go_ret
    exact ⟨ret_bool (by rw [HV.out]), bAlloc (Below.refl _ _) _⟩
  have HOK := hid (show fieldsOk x.kind = true by unfold fieldsOk; rw [decide_eq_true_iff]; omega)
  have HJ := hid (show decide (1 ≤ x.job ∧ x.job ≤ 72057594037927935) = true by rw [decide_eq_true_iff]; omega)
  cases hlg : longB x.needs 16 200
  case true =>
    have HV := hid (show recOk x = false by
      cases h : recOk x
      · rfl
      · rw [recOk_long h] at hlg; cases hlg)
    have HLG := hid hlg
    clear hlg
    go_enter Tryz.func62, Tryz.ntmps62
    go_wp2_with fail
    refine (long_calls x.needs 16 200 _ _ (Kd.below HK.out (bAlloc (Below.refl _ _) _))).mono ?_
    rintro e w1 ⟨rfl, rfl⟩
    rw [HLG.out]
    go_wp2
    go_ret
    exact ⟨ret_bool (by rw [HV.out]), bAlloc (Below.refl _ _) _⟩
  have HALL := hid (show x.needs.all (fun s => decide ((s.size : Int) ≤ 200)) = true by rw [List.all_eq_true]; intro s hs; rw [decide_eq_true_iff]; have := (long_needs.1 hlg).1 s hs; omega)
  have HLG := hid hlg
  clear hlg
  go_enter Tryz.func62, Tryz.ntmps62
  go_wp2_with fail
  refine (long_calls x.needs 16 200 _ _ (Kd.below HK.out (bAlloc (Below.refl _ _) _))).mono ?_
  rintro e w1 ⟨rfl, rfl⟩
  rw [HLG.out]
  go_wp2_with fail
  refine (rin17_calls x.kind 0 _ x.task 0 15 _ (by decide) (by decide)).mono ?_
  rintro e w1 ⟨rfl, rfl⟩
  rw [show ((2 : Int) ^ 0) = 1 from rfl]
  cases hi : inB (hasF x.kind 1) x.task 0 15
  · have HV := hid (show recOk x = false by rw [HD.out, hi]; simp)
    clear hi
    go_wp2
    go_ret
    exact ⟨ret_bool (by rw [HV.out]), bAlloc (Below.refl _ _) _⟩
  have HI0 := hid hi
  clear hi
  go_wp2_with fail
  refine (rin17_calls x.kind 1 _ x.worker 0 63 _ (by decide) (by decide)).mono ?_
  rintro e w1 ⟨rfl, rfl⟩
  rw [show ((2 : Int) ^ 1) = 2 from rfl]
  cases hi : inB (hasF x.kind 2) x.worker 0 63
  · have HV := hid (show recOk x = false by rw [HD.out, hi]; simp)
    clear hi
    go_wp2
    go_ret
    exact ⟨ret_bool (by rw [HV.out]), bAlloc (Below.refl _ _) _⟩
  have HI1 := hid hi
  clear hi
  go_wp2_with fail
  refine (rin17_calls x.kind 2 _ x.sched 0 7 _ (by decide) (by decide)).mono ?_
  rintro e w1 ⟨rfl, rfl⟩
  rw [show ((2 : Int) ^ 2) = 4 from rfl]
  cases hi : inB (hasF x.kind 4) x.sched 0 7
  · have HV := hid (show recOk x = false by rw [HD.out, hi]; simp)
    clear hi
    go_wp2
    go_ret
    exact ⟨ret_bool (by rw [HV.out]), bAlloc (Below.refl _ _) _⟩
  have HI2 := hid hi
  clear hi
  go_wp2_with fail
  refine (rin17_calls x.kind 3 _ x.epoch 1 9 _ (by decide) (by decide)).mono ?_
  rintro e w1 ⟨rfl, rfl⟩
  rw [show ((2 : Int) ^ 3) = 8 from rfl]
  cases hi : inB (hasF x.kind 8) x.epoch 1 9
  · have HV := hid (show recOk x = false by rw [HD.out, hi]; simp)
    clear hi
    go_wp2
    go_ret
    exact ⟨ret_bool (by rw [HV.out]), bAlloc (Below.refl _ _) _⟩
  have HI3 := hid hi
  clear hi
  go_wp2_with fail
  refine (rin17_calls x.kind 4 _ (n : Int) 1 16 _ (by decide) (by decide)).mono ?_
  rintro e w1 ⟨rfl, rfl⟩
  rw [show ((2 : Int) ^ 4) = 16 from rfl]
  have HV := hid (show recOk x = inB (hasF x.kind 16) n 1 16 by rw [HD.out, HOK.out, HJ.out, HI0.out, HI1.out, HI2.out, HI3.out, HALL.out]; simp)
  go_wp2
  go_ret
  exact ⟨ret_bool (by rw [HV.out]), bAlloc (Below.refl _ _) _⟩

set_option maxHeartbeats 800000 in
set_option maxRecDepth 100000 in
theorem rlong17_calls (x : RecS) (A : Option Addr) (n c : Nat) (w : World) (hn : Kd.str.slice.K w Any x.needs [.slice A n c]) :
    Calls Tryz.prog 25 #[.agg #[.int .i64 x.kind, .int .i64 x.job, .int .i64 x.task, .int .i64 x.worker, .int .i64 x.sched, .int .i64 x.epoch, .slice A n c]] w fun e w' => e = .returned (.bool (longB x.needs 20 300)) ∧ Below w.heap.size w w' := by
  have HK := hid hn
  clear hn
  go_enter Tryz.func25, Tryz.ntmps25
  go_wp2_with fail
  refine (long_calls x.needs 20 300 _ _ (Kd.below HK.out (bAlloc (Below.refl _ _) _))).mono ?_
  rintro e w1 ⟨rfl, rfl⟩
  go_wp2
  go_ret
  exact ⟨rfl, bAlloc (Below.refl _ _) _⟩

end Go.Proofs.YtkjncmmombkllaaGreat
