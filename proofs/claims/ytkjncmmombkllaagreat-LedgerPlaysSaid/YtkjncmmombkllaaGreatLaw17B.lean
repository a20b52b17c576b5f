import Derived.Test.YtkjncmmombkllaaGreatR17B
import Derived.Test.YtkjncmmombkllaaGreatBase
namespace Go.Proofs.YtkjncmmombkllaaGreat
open Go.RowKit Go.Lib

theorem numL_one {n : Int} (h0 : 0 ≤ n) (h : n < 248) : (numL (clampN n)).length = 1 := by
  unfold numL
  rw [if_pos (by unfold clampN; omega)]; rfl
theorem optL_one {t : Bool} {n lo hi : Int} (h : inB t n lo hi = true) (h0 : 0 ≤ lo) (h1 : hi < 248) : (optL t n).length = if t then 1 else 0 := by
  cases t
  · rfl
  · simp only [inB, if_true, decide_eq_true_eq] at h
    exact numL_one (by omega) (by omega)
theorem recL_key {z : RecS} (hz : recOk z = true) (h11 : z.needs = []) : (recL z).length = 1 + (numL (clampN z.job)).length + (if hasF z.kind 1 then 1 else 0) + (if hasF z.kind 2 then 1 else 0) + (if hasF z.kind 4 then 1 else 0) + (if hasF z.kind 8 then 1 else 0) := by
  have hz' := hz
  simp only [recOk, Bool.and_eq_true, decide_eq_true_eq, fieldsOk] at hz'
  obtain ⟨⟨⟨⟨⟨⟨⟨h2, h3⟩, h4⟩, h5⟩, h6⟩, h7⟩, h8⟩, h9⟩ := hz'
  have h10 : hasF z.kind 16 = false := by
    cases h : hasF z.kind 16
    · rfl
    · rw [h, h11] at h8; simp [inB] at h8
  have e16 : (optL false ((([] : List ByteArray).length : Nat) : Int)).length = 0 := rfl
  have e4 := optL_one h4 (by decide) (by decide)
  have e5 := optL_one h5 (by decide) (by decide)
  have e6 := optL_one h6 (by decide) (by decide)
  have e7 := optL_one h7 (by decide) (by decide)
  have e0 := numL_one (n := z.kind) (by omega) (by omega)
  unfold recL
  rw [if_pos hz, h11]
  unfold recHead
  rw [h11, h10, List.flatMap_nil, List.append_nil]
  simp only [List.length_append, e0, e4, e5, e6, e7]
  rw [e16, Nat.add_zero]
theorem sizeR_key {z : RecS} (hz : recOk z = true) (h : (recL z).length < 248) : sizeR z = (recL z).length + 5 := by
  unfold sizeR
  rw [if_pos hz]
  unfold putL
  rw [if_neg (by omega)]
  have : (numL (recL z).length).length = 1 := by unfold numL; rw [if_pos h]; rfl
  simp [sealL, textL, four, this]; omega
theorem job_ok {x : RecS} (h : sizeR x ≠ 0) : 1 ≤ x.job ∧ x.job ≤ 72057594037927935 := by
  cases hok : recOk x
  · unfold sizeR at h; rw [hok] at h; exact absurd rfl h
  · simp only [recOk, Bool.and_eq_true, decide_eq_true_eq] at hok
    exact hok.1.1.1.1.1.1.2
theorem sizes_key {job : Int} (h : 1 ≤ job ∧ job ≤ 72057594037927935) :
    sizeR ⟨2, job, 0, 0, 0, 1, []⟩ = (numL (clampN job)).length + 9 ∧ sizeR ⟨3, job, 0, 0, 0, 0, []⟩ = (numL (clampN job)).length + 7 ∧ sizeR ⟨4, job, 0, 0, 0, 1, []⟩ = (numL (clampN job)).length + 8 := by
  have hl := numL_len_le (clampN_le job)
  have hj : decide (1 ≤ job ∧ job ≤ 72057594037927935) = true := by rw [decide_eq_true_iff]; exact h
  have k2 : recOk ⟨2, job, 0, 0, 0, 1, []⟩ = true := by
    unfold recOk; simp only [hj, Bool.and_true]; decide +kernel
  have k3 : recOk ⟨3, job, 0, 0, 0, 0, []⟩ = true := by
    unfold recOk; simp only [hj, Bool.and_true]; decide +kernel
  have k4 : recOk ⟨4, job, 0, 0, 0, 1, []⟩ = true := by
    unfold recOk; simp only [hj, Bool.and_true]; decide +kernel
  have l2 := recL_key k2 rfl
  have l3 := recL_key k3 rfl
  have l4 := recL_key k4 rfl
  have b21 : hasF 2 1 = true := by decide +kernel
  have b22 : hasF 2 2 = true := by decide +kernel
  have b24 : hasF 2 4 = false := by decide +kernel
  have b28 : hasF 2 8 = true := by decide +kernel
  have b31 : hasF 3 1 = true := by decide +kernel
  have b32 : hasF 3 2 = false := by decide +kernel
  have b34 : hasF 3 4 = false := by decide +kernel
  have b38 : hasF 3 8 = false := by decide +kernel
  have b41 : hasF 4 1 = false := by decide +kernel
  have b42 : hasF 4 2 = false := by decide +kernel
  have b44 : hasF 4 4 = true := by decide +kernel
  have b48 : hasF 4 8 = true := by decide +kernel
  simp only [b21, b22, b24, b28] at l2
  simp only [b31, b32, b34, b38] at l3
  simp only [b41, b42, b44, b48] at l4
  simp at l2 l3 l4
  refine ⟨?_, ?_, ?_⟩
  · rw [sizeR_key k2 (by omega)]; omega
  · rw [sizeR_key k3 (by omega)]; omega
  · rw [sizeR_key k4 (by omega)]; omega

set_option maxHeartbeats 1600000 in
set_option maxRecDepth 100000 in
theorem rmost17_calls (job sched : Int) (l : List ByteArray) (A : Option Addr) (n c : Nat) (w : World) (hn : Kd.str.slice.K w Any l [.slice A n c]) (hn16 : n ≤ 1000000) :
    Calls Tryz.prog 37 #[.int .i64 job, .int .i64 sched, .slice A n c] w fun e w' => e = .returned (.int .i64 (mostR job sched l)) ∧ Below w.heap.size w w' := by
  have HK := hid hn
  obtain ⟨A', c', he, hc, hm, hr⟩ := hn
  have hnl : l.length = n := by injection he with h; injection h with _ h _; exact h.symm
  have HD := hid (show mostR job sched l = if sizeR ⟨1, job, 0, 0, sched, 0, l⟩ = 0 then 0 else sizeR ⟨1, job, 0, 0, sched, 0, l⟩ + (n : Int) * (sizeR ⟨2, job, 0, 0, 0, 1, []⟩ + sizeR ⟨3, job, 0, 0, 0, 0, []⟩) + 8 * sizeR ⟨4, job, 0, 0, 0, 1, []⟩ by unfold mostR; rw [hnl])
  clear he hc hm hr hnl
  have hs1 := sizeR_bound ⟨1, job, 0, 0, sched, 0, l⟩
  have C1 := hid (fun w' h => rsize17_calls ⟨1, job, 0, 0, sched, 0, l⟩ A n c w' (Kd.below (w := w) HK.out h))
  have HJ := hid (fun h => job_ok (x := ⟨1, job, 0, 0, sched, 0, l⟩) h)
  obtain ⟨z1, h1⟩ : ∃ z, z = sizeR ⟨1, job, 0, 0, sched, 0, l⟩ := ⟨_, rfl⟩
  rw [← h1] at C1 hs1 HD HJ
  obtain ⟨hs1, hs1'⟩ := hs1
  clear h1
  by_cases h0 : z1 = 0
  · have HV := hid (show mostR job sched l = 0 by rw [HD.out, if_pos h0])
    have e0 : (z1 == (0 : Int)) = true := by rw [beq_iff_eq]; exact h0
    clear h0
    go_enter Tryz.func37, Tryz.ntmps37
    go_wp2_with fail
    refine (C1.out _ (Below.refl _ _)).mono ?_
    rintro e w1 ⟨rfl, hb1⟩
    go_wp2
    go_ret
    exact ⟨ret_int (by rw [HV.out]), hb1⟩
  · obtain ⟨s2, s3, s4⟩ := sizes_key (HJ.out h0)
    have hsz : (mkB (numL (clampN job))).size = (numL (clampN job)).length := mkB_size _
    have hl := numL_len_le (clampN_le job)
    obtain ⟨k, hk⟩ : ∃ k, k = (numL (clampN job)).length := ⟨_, rfl⟩
    rw [← hk] at s2 s3 s4 hsz hl
    have HV := hid (show mostR job sched l = z1 + n * (k + 9 + k + 7) + 8 * (k + 8) by rw [HD.out, if_neg h0, s2, s3, s4]; congr 2; try omega)
    have e0 : (z1 == (0 : Int)) = false := by rw [beq_eq_false_iff_ne]; exact h0
    have hp1 : 0 ≤ (n : Int) * (k + 9 + k + 7) := Int.mul_nonneg (by omega) (by omega)
    have hp2 : (n : Int) * (k + 9 + k + 7) ≤ 1000000 * 100 := Int.mul_le_mul (by omega) (by omega) (by omega) (by omega)
    clear h0 s2 s3 s4 hk
    go_enter Tryz.func37, Tryz.ntmps37
    go_wp2_with fail
    refine (C1.out _ (Below.refl _ _)).mono ?_
    rintro e w1 ⟨rfl, hb1⟩
    go_wp2_with fail
    refine (rnum_calls job _).mono ?_
    rintro e w2 ⟨rfl, hb2⟩
    have b2 := bThen hb1 hb2
    go_wp2
    go_ret
    exact ⟨ret_int (by rw [HV.out]), b2⟩

end Go.Proofs.YtkjncmmombkllaaGreat
