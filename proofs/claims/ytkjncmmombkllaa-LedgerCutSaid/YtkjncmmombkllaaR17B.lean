import Derived.Test.YtkjncmmombkllaaR17
namespace Go.Proofs.Ytkjncmmombkllaa
open Go.RowKit Go.Lib

/-! ### ref17.Bytes -/
def valI (x : RecS) : Nat → Int
  | 0 => x.task
  | 1 => x.worker
  | 2 => x.sched
  | 3 => x.epoch
  | _ => x.needs.length
def recUp (x : RecS) : Nat → List UInt8
  | 0 => numL (clampN x.kind) ++ numL (clampN x.job)
  | k + 1 => recUp x k ++ optL (hasF x.kind (2 ^ k)) (valI x k)
theorem recUp_5 (x : RecS) : recUp x 5 = recHead x := rfl
theorem recUp_len (x : RecS) : ∀ k, (recUp x k).length ≤ 16 + 8 * k
  | 0 => by
    have h1 := numL_len_le (clampN_le x.kind)
    have h2 := numL_len_le (clampN_le x.job)
    simp only [recUp, List.length_append]; omega
  | k + 1 => by
    have h1 := recUp_len x k
    have h2 := optL_len (hasF x.kind (2 ^ k)) (valI x k)
    simp only [recUp, List.length_append]; omega

/-! ### Most -/
def mostR (job sched : Int) (needs : List ByteArray) : Int :=
  if sizeR ⟨1, job, 0, 0, sched, 0, needs⟩ = 0 then 0 else
    sizeR ⟨1, job, 0, 0, sched, 0, needs⟩ + needs.length * (sizeR ⟨2, job, 0, 0, 0, 1, []⟩ + sizeR ⟨3, job, 0, 0, 0, 0, []⟩) + 8 * sizeR ⟨4, job, 0, 0, 0, 1, []⟩
theorem sizeR_bound (x : RecS) : 0 ≤ sizeR x ∧ sizeR x ≤ 5000 := by
  unfold sizeR
  have h1 := recL_len (x := x)
  have h2 := putL_len (l := recL x) (by omega)
  split <;> omega

set_option maxHeartbeats 1600000 in
set_option maxRecDepth 100000 in
theorem recMost_calls (job sched : Int) (l : List ByteArray) (A : Option Addr) (n c : Nat) (w : World) (hn : Kd.str.slice.K w Any l [.slice A n c]) (hn16 : n ≤ 1000000) :
    Calls Try.prog 42 #[.int .i64 job, .int .i64 sched, .slice A n c] w fun e w' => e = .returned (.int .i64 (mostR job sched l)) ∧ Below w.heap.size w w' := by
  have HK := hid hn
  obtain ⟨A', c', he, hc, hm, hr⟩ := hn
  have hnl : l.length = n := by injection he with h; injection h with _ h _; exact h.symm
  have HD := hid (show mostR job sched l = if sizeR ⟨1, job, 0, 0, sched, 0, l⟩ = 0 then 0 else sizeR ⟨1, job, 0, 0, sched, 0, l⟩ + (n : Int) * (sizeR ⟨2, job, 0, 0, 0, 1, []⟩ + sizeR ⟨3, job, 0, 0, 0, 0, []⟩) + 8 * sizeR ⟨4, job, 0, 0, 0, 1, []⟩ by unfold mostR; rw [hnl])
  clear he hc hm hr hnl
  have hs1 := sizeR_bound ⟨1, job, 0, 0, sched, 0, l⟩
  have hs2 := sizeR_bound ⟨2, job, 0, 0, 0, 1, []⟩
  have hs3 := sizeR_bound ⟨3, job, 0, 0, 0, 0, []⟩
  have hs4 := sizeR_bound ⟨4, job, 0, 0, 0, 1, []⟩
  have C1 := hid (fun w' h => recSize_calls ⟨1, job, 0, 0, sched, 0, l⟩ A n c w' (Kd.below (w := w) HK.out h))
  have C2 := hid (fun w' => recSize_calls ⟨2, job, 0, 0, 0, 1, []⟩ none 0 0 w' ⟨none, 0, rfl, by simp, by simp, Kd.Row.nil⟩)
  have C3 := hid (fun w' => recSize_calls ⟨3, job, 0, 0, 0, 0, []⟩ none 0 0 w' ⟨none, 0, rfl, by simp, by simp, Kd.Row.nil⟩)
  have C4 := hid (fun w' => recSize_calls ⟨4, job, 0, 0, 0, 1, []⟩ none 0 0 w' ⟨none, 0, rfl, by simp, by simp, Kd.Row.nil⟩)
  obtain ⟨z1, h1⟩ : ∃ z, z = sizeR ⟨1, job, 0, 0, sched, 0, l⟩ := ⟨_, rfl⟩
  obtain ⟨z2, h2⟩ : ∃ z, z = sizeR ⟨2, job, 0, 0, 0, 1, []⟩ := ⟨_, rfl⟩
  obtain ⟨z3, h3⟩ : ∃ z, z = sizeR ⟨3, job, 0, 0, 0, 0, []⟩ := ⟨_, rfl⟩
  obtain ⟨z4, h4⟩ : ∃ z, z = sizeR ⟨4, job, 0, 0, 0, 1, []⟩ := ⟨_, rfl⟩
  rw [← h1] at C1 hs1 HD
  rw [← h2] at C2 hs2 HD
  rw [← h3] at C3 hs3 HD
  rw [← h4] at C4 hs4 HD
  obtain ⟨hs1, hs1'⟩ := hs1
  obtain ⟨hs2, hs2'⟩ := hs2
  obtain ⟨hs3, hs3'⟩ := hs3
  obtain ⟨hs4, hs4'⟩ := hs4
  clear h1 h2 h3 h4
  by_cases h0 : z1 = 0
  · have HV := hid (show mostR job sched l = 0 by rw [HD.out, if_pos h0])
    have e0 : (z1 == (0 : Int)) = true := by rw [beq_iff_eq]; exact h0
    clear h0
    go_enter Try.func42, Try.ntmps42
    go_wp2_with fail
    refine (C1.out _ (Below.refl _ _)).mono ?_
    rintro e w1 ⟨rfl, hb1⟩
    go_wp2
    go_ret
    exact ⟨ret_int (by rw [HV.out]), hb1⟩
  · have HV := hid (show mostR job sched l = z1 + n * (z2 + z3) + 8 * z4 by rw [HD.out, if_neg h0])
    have e0 : (z1 == (0 : Int)) = false := by rw [beq_eq_false_iff_ne]; exact h0
    have hp1 : 0 ≤ (n : Int) * (z2 + z3) := Int.mul_nonneg (by omega) (by omega)
    have hp2 : (n : Int) * (z2 + z3) ≤ 1000000 * 10000 := Int.mul_le_mul (by omega) (by omega) (by omega) (by omega)
    clear h0
    go_enter Try.func42, Try.ntmps42
    go_wp2_with fail
    refine (C1.out _ (Below.refl _ _)).mono ?_
    rintro e w1 ⟨rfl, hb1⟩
    go_wp2_with fail
    refine (C2.out _).mono ?_
    rintro e w2 ⟨rfl, hb2⟩
    have b2 := bThen hb1 hb2
    go_wp2_with fail
    refine (C3.out _).mono ?_
    rintro e w3 ⟨rfl, hb3⟩
    have b3 := bThen b2 hb3
    go_wp2_with fail
    refine (C4.out _).mono ?_
    rintro e w4 ⟨rfl, hb4⟩
    have b4 := bThen b3 hb4
    go_wp2
    go_ret
    exact ⟨ret_int (by rw [HV.out]), b4⟩

end Go.Proofs.Ytkjncmmombkllaa
