import Derived.Test.YtahhhnbpohcbfaaR17B
import Derived.Test.YtahhhnbpohcbfaaReg
namespace Go.Proofs.Ytahhhnbpohcbfaa
open Go.RowKit Go.Lib

theorem numL_one {n : Int} (h0 : 0 ≤ n) (h : n < 248) : (numL (clampN n)).length = 1 := by
  unfold numL
  rw [if_pos (by unfold clampN; omega)]; rfl
theorem optL_one {t : Bool} {n lo hi : Int} (h : inB t n lo hi = true) (h0 : 0 ≤ lo) (h1 : hi < 248) : (optL t n).length = if t then 1 else 0 := by
  cases t
  · rfl
  · simp only [inB, if_true, decide_eq_true_eq] at h
    exact numL_one (by omega) (by omega)
theorem recL_key {z : RecS} (hz : recOk z = true) (h11 : z.needs = []) : (recL z).length = 1 + (numL (clampN z.job)).length + (if hasF z.kind 1 then 1 else 0) + (if hasF z.kind 2 then 1 else 0) + (if hasF z.kind 4 then 1 else 0) + (if hasF z.kind 8 then 1 else 0) := by
  have hz' := hz
  simp only [recOk, Bool.and_eq_true, decide_eq_true_eq, fieldsOk] at hz'
  obtain ⟨⟨⟨⟨⟨⟨⟨h2, h3⟩, h4⟩, h5⟩, h6⟩, h7⟩, h8⟩, h9⟩ := hz'
  have h10 : hasF z.kind 16 = false := by
    cases h : hasF z.kind 16
    · rfl
    · rw [h, h11] at h8; simp [inB] at h8
  have e16 : (optL false ((([] : List ByteArray).length : Nat) : Int)).length = 0 := rfl
  have e4 := optL_one h4 (by decide) (by decide)
  have e5 := optL_one h5 (by decide) (by decide)
  have e6 := optL_one h6 (by decide) (by decide)
  have e7 := optL_one h7 (by decide) (by decide)
  have e0 := numL_one (n := z.kind) (by omega) (by omega)
  unfold recL
  rw [if_pos hz, h11]
  unfold recHead
  rw [h11, h10, List.flatMap_nil, List.append_nil]
  simp only [List.length_append, e0, e4, e5, e6, e7]
  rw [e16, Nat.add_zero]
theorem sizeR_key {z : RecS} (hz : recOk z = true) (h : (recL z).length < 248) : sizeR z = (recL z).length + 5 := by
  unfold sizeR
  rw [if_pos hz]
  unfold putL
  rw [if_neg (by omega)]
  have : (numL (recL z).length).length = 1 := by unfold numL; rw [if_pos h]; rfl
  simp [sealL, textL, four, this]; omega
theorem job_ok {x : RecS} (h : sizeR x ≠ 0) : 1 ≤ x.job ∧ x.job ≤ 72057594037927935 := by
  cases hok : recOk x
  · unfold sizeR at h; rw [hok] at h; exact absurd rfl h
  · simp only [recOk, Bool.and_eq_true, decide_eq_true_eq] at hok
    exact hok.1.1.1.1.1.1.2
theorem sizes_key {job : Int} (h : 1 ≤ job ∧ job ≤ 72057594037927935) :
    sizeR ⟨2, job, 0, 0, 0, 1, []⟩ = (numL (clampN job)).length + 9 ∧ sizeR ⟨3, job, 0, 0, 0, 0, []⟩ = (numL (clampN job)).length + 7 ∧ sizeR ⟨4, job, 0, 0, 0, 1, []⟩ = (numL (clampN job)).length + 8 := by
  have hl := numL_len_le (clampN_le job)
  have hj : decide (1 ≤ job ∧ job ≤ 72057594037927935) = true := by rw [decide_eq_true_iff]; exact h
  have k2 : recOk ⟨2, job, 0, 0, 0, 1, []⟩ = true := by
    unfold recOk; simp only [hj, Bool.and_true]; decide +kernel
  have k3 : recOk ⟨3, job, 0, 0, 0, 0, []⟩ = true := by
    unfold recOk; simp only [hj, Bool.and_true]; decide +kernel
  have k4 : recOk ⟨4, job, 0, 0, 0, 1, []⟩ = true := by
    unfold recOk; simp only [hj, Bool.and_true]; decide +kernel
  have l2 := recL_key k2 rfl
  have l3 := recL_key k3 rfl
  have l4 := recL_key k4 rfl
  have b21 : hasF 2 1 = true := by decide +kernel
  have b22 : hasF 2 2 = true := by decide +kernel
  have b24 : hasF 2 4 = false := by decide +kernel
  have b28 : hasF 2 8 = true := by decide +kernel
  have b31 : hasF 3 1 = true := by decide +kernel
  have b32 : hasF 3 2 = false := by decide +kernel
  have b34 : hasF 3 4 = false := by decide +kernel
  have b38 : hasF 3 8 = false := by decide +kernel
  have b41 : hasF 4 1 = false := by decide +kernel
  have b42 : hasF 4 2 = false := by decide +kernel
  have b44 : hasF 4 4 = true := by decide +kernel
  have b48 : hasF 4 8 = true := by decide +kernel
  simp only [b21, b22, b24, b28] at l2
  simp only [b31, b32, b34, b38] at l3
  simp only [b41, b42, b44, b48] at l4
  simp at l2 l3 l4
  refine ⟨?_, ?_, ?_⟩
  · rw [sizeR_key k2 (by omega)]; omega
  · rw [sizeR_key k3 (by omega)]; omega
  · rw [sizeR_key k4 (by omega)]; omega

set_option maxHeartbeats 1600000 in
set_option maxRecDepth 100000 in
theorem rmost17_calls (job sched : Int) (l : List ByteArray) (A : Option Addr) (n c : Nat) (w : World) (hn : Kd.str.slice.K w Any l [.slice A n c]) (hn16 : n ≤ 1000000) :
    Calls Try.prog 23 #[.int .i64 job, .int .i64 sched, .slice A n c] w fun e w' => e = .returned (.int .i64 (mostR job sched l)) ∧ Below w.heap.size w w' := by
  have HK := hid hn
  obtain ⟨A', c', he, hc, hm, hr⟩ := hn
  have hnl : l.length = n := by injection he with h; injection h with _ h _; exact h.symm
  have HD := hid (show mostR job sched l = if sizeR ⟨1, job, 0, 0, sched, 0, l⟩ = 0 then 0 else sizeR ⟨1, job, 0, 0, sched, 0, l⟩ + (n : Int) * (sizeR ⟨2, job, 0, 0, 0, 1, []⟩ + sizeR ⟨3, job, 0, 0, 0, 0, []⟩) + 8 * sizeR ⟨4, job, 0, 0, 0, 1, []⟩ by unfold mostR; rw [hnl])
  clear he hc hm hr hnl
  have hs1 := sizeR_bound ⟨1, job, 0, 0, sched, 0, l⟩
  have C1 := hid (fun w' h => rsize17_calls ⟨1, job, 0, 0, sched, 0, l⟩ A n c w' (Kd.below (w := w) HK.out h))
  have HJ := hid (fun h => job_ok (x := ⟨1, job, 0, 0, sched, 0, l⟩) h)
  obtain ⟨z1, h1⟩ : ∃ z, z = sizeR ⟨1, job, 0, 0, sched, 0, l⟩ := ⟨_, rfl⟩
  rw [← h1] at C1 hs1 HD HJ
  obtain ⟨hs1, hs1'⟩ := hs1
  clear h1
  by_cases h0 : z1 = 0
  · have HV := hid (show mostR job sched l = 0 by rw [HD.out, if_pos h0])
    have e0 : (z1 == (0 : Int)) = true := by rw [beq_iff_eq]; exact h0
    clear h0
    go_enter Try.func23, Try.ntmps23
    go_wp2_with fail
    refine (C1.out _ (Below.refl _ _)).mono ?_
    rintro e w1 ⟨rfl, hb1⟩
    go_wp2
    go_ret
    exact ⟨ret_int (by rw [HV.out]), hb1⟩
  · obtain ⟨s2, s3, s4⟩ := sizes_key (HJ.out h0)
    have hsz : (mkB (numL (clampN job))).size = (numL (clampN job)).length := mkB_size _
    have hl := numL_len_le (clampN_le job)
    obtain ⟨k, hk⟩ : ∃ k, k = (numL (clampN job)).length := ⟨_, rfl⟩
    rw [← hk] at s2 s3 s4 hsz hl
    have HV := hid (show mostR job sched l = z1 + n * (k + 9 + k + 7) + 8 * (k + 8) by rw [HD.out, if_neg h0, s2, s3, s4]; congr 2; try omega)
    have e0 : (z1 == (0 : Int)) = false := by rw [beq_eq_false_iff_ne]; exact h0
    have hp1 : 0 ≤ (n : Int) * (k + 9 + k + 7) := Int.mul_nonneg (by omega) (by omega)
    have hp2 : (n : Int) * (k + 9 + k + 7) ≤ 1000000 * 100 := Int.mul_le_mul (by omega) (by omega) (by omega) (by omega)
    clear h0 s2 s3 s4 hk
    go_enter Try.func23, Try.ntmps23
    go_wp2_with fail
    refine (C1.out _ (Below.refl _ _)).mono ?_
    rintro e w1 ⟨rfl, hb1⟩
    go_wp2_with fail
    refine (rnum_calls job _).mono ?_
    rintro e w2 ⟨rfl, hb2⟩
    have b2 := bThen hb1 hb2
    go_wp2
    go_ret
    exact ⟨ret_int (by rw [HV.out]), b2⟩

set_option maxHeartbeats 12800000 in
set_option maxRecDepth 100000 in
theorem recBytesLaw_calls (x y : RecS) (A B : Option Addr) (n c m d : Nat) (w : World) (hn : Kd.str.slice.K w Any x.needs [.slice A n c]) (hm : Kd.str.slice.K w Any y.needs [.slice B m d]) :
    Calls Try.prog 3 #[.agg #[.int .i64 x.kind, .int .i64 x.job, .int .i64 x.task, .int .i64 x.worker, .int .i64 x.sched, .int .i64 x.epoch, .slice A n c], .agg #[.int .i64 y.kind, .int .i64 y.job, .int .i64 y.task, .int .i64 y.worker, .int .i64 y.sched, .int .i64 y.epoch, .slice B m d]] w fun e w' => e = .returned (.bool true) ∧ Below w.heap.size w w' := by
  have LX := hid (show ∀ w1, Below w.heap.size w w1 → Calls Try.prog 12 #[.agg #[.int .i64 x.kind, .int .i64 x.job, .int .i64 x.task, .int .i64 x.worker, .int .i64 x.sched, .int .i64 x.epoch, .slice A n c]] w1 (fun e w' => e = .returned (.bool (longB x.needs 20 300)) ∧ Below w1.heap.size w1 w') from fun w1 h => rlong17_calls x A n c w1 (Kd.below hn h))
  have LY := hid (show ∀ w1, Below w.heap.size w w1 → Calls Try.prog 12 #[.agg #[.int .i64 y.kind, .int .i64 y.job, .int .i64 y.task, .int .i64 y.worker, .int .i64 y.sched, .int .i64 y.epoch, .slice B m d]] w1 (fun e w' => e = .returned (.bool (longB y.needs 20 300)) ∧ Below w1.heap.size w1 w') from fun w1 h => rlong17_calls y B m d w1 (Kd.below hm h))
  cases h1 : longB x.needs 20 300
  case true =>
    go_enter Try.func3, Try.ntmps3
    go_wp2_with fail
    obtain ⟨W0, hW0⟩ : ∃ W0, W0 = (w.alloc (Obj.cells #[.int .i64 x.kind, .int .i64 x.job, .int .i64 x.task, .int .i64 x.worker, .int .i64 x.sched, .int .i64 x.epoch, .slice A n c] 24)).alloc (Obj.cells #[.int .i64 y.kind, .int .i64 y.job, .int .i64 y.task, .int .i64 y.worker, .int .i64 y.sched, .int .i64 y.epoch, .slice B m d] 24) := ⟨_, rfl⟩
    have b0 : Below w.heap.size w W0 := by rw [hW0]; exact bAlloc (bAlloc (Below.refl _ _) _) _
    have HX0 : Hid (W0.heap[w.heap.size]? = some (.cells #[.int .i64 x.kind, .int .i64 x.job, .int .i64 x.task, .int .i64 x.worker, .int .i64 x.sched, .int .i64 x.epoch, .slice A n c] 24 (0, 0))) := by rw [hW0]; exact heap_old (by simp) (heap_at rfl)
    have HY0 : Hid (W0.heap[w.heap.size + 1]? = some (.cells #[.int .i64 y.kind, .int .i64 y.job, .int .i64 y.task, .int .i64 y.worker, .int .i64 y.sched, .int .i64 y.epoch, .slice B m d] 24 (0, 0))) := by rw [hW0]; exact heap_at (by simp)
    have hzx : w.heap.size < W0.heap.size := by rw [hW0]; simp; omega
    have hzy : w.heap.size + 1 < W0.heap.size := by rw [hW0]; simp
    rw [← hW0]
    clear hW0
    refine (LX.out _ b0).mono ?_
    rintro e w1 ⟨rfl, hb1⟩
    rw [h1]
    go_wp2_with fail
    refine (works17_calls _).mono ?_
    rintro e w9 ⟨rfl, hb9⟩
    go_wp2
    go_ret
    exact ⟨rfl, bThen (bThen b0 hb1) hb9⟩
  cases h2 : longB y.needs 20 300
  case true =>
    go_enter Try.func3, Try.ntmps3
    go_wp2_with fail
    obtain ⟨W0, hW0⟩ : ∃ W0, W0 = (w.alloc (Obj.cells #[.int .i64 x.kind, .int .i64 x.job, .int .i64 x.task, .int .i64 x.worker, .int .i64 x.sched, .int .i64 x.epoch, .slice A n c] 24)).alloc (Obj.cells #[.int .i64 y.kind, .int .i64 y.job, .int .i64 y.task, .int .i64 y.worker, .int .i64 y.sched, .int .i64 y.epoch, .slice B m d] 24) := ⟨_, rfl⟩
    have b0 : Below w.heap.size w W0 := by rw [hW0]; exact bAlloc (bAlloc (Below.refl _ _) _) _
    have HX0 : Hid (W0.heap[w.heap.size]? = some (.cells #[.int .i64 x.kind, .int .i64 x.job, .int .i64 x.task, .int .i64 x.worker, .int .i64 x.sched, .int .i64 x.epoch, .slice A n c] 24 (0, 0))) := by rw [hW0]; exact heap_old (by simp) (heap_at rfl)
    have HY0 : Hid (W0.heap[w.heap.size + 1]? = some (.cells #[.int .i64 y.kind, .int .i64 y.job, .int .i64 y.task, .int .i64 y.worker, .int .i64 y.sched, .int .i64 y.epoch, .slice B m d] 24 (0, 0))) := by rw [hW0]; exact heap_at (by simp)
    have hzx : w.heap.size < W0.heap.size := by rw [hW0]; simp; omega
    have hzy : w.heap.size + 1 < W0.heap.size := by rw [hW0]; simp
    rw [← hW0]
    clear hW0
    refine (LX.out _ b0).mono ?_
    rintro e w1 ⟨rfl, hb1⟩
    rw [h1]
    have qx := (cells_of_block ((Below.block hb1 _ hzx).trans HX0.out)).1
    have qx0 := qx 0 _ rfl
    have qx1 := qx 1 _ rfl
    have qx2 := qx 2 _ rfl
    have qx3 := qx 3 _ rfl
    have qx4 := qx 4 _ rfl
    have qx5 := qx 5 _ rfl
    have qx6 := qx 6 _ rfl
    clear qx
    have qy := (cells_of_block ((Below.block hb1 _ hzy).trans HY0.out)).1
    have qy0 := qy 0 _ rfl
    have qy1 := qy 1 _ rfl
    have qy2 := qy 2 _ rfl
    have qy3 := qy 3 _ rfl
    have qy4 := qy 4 _ rfl
    have qy5 := qy 5 _ rfl
    have qy6 := qy 6 _ rfl
    clear qy
    go_wp2_with fail
    refine (LY.out _ (bThen b0 hb1)).mono ?_
    rintro e w2 ⟨rfl, hb2⟩
    rw [h2]
    have b2 := bThen hb1 hb2
    clear qx0 qx1 qx2 qx3 qx4 qx5 qx6 qy0 qy1 qy2 qy3 qy4 qy5 qy6
    go_wp2_with fail
    refine (works17_calls _).mono ?_
    rintro e w9 ⟨rfl, hb9⟩
    go_wp2
    go_ret
    exact ⟨rfl, bThen (bThen b0 b2) hb9⟩
  have hnl : n ≤ 20 := by
    obtain ⟨A', c', he, _⟩ := hn
    have hnl : x.needs.length = n := by injection he with h; injection h with _ h _; exact h.symm
    simp only [longB, Bool.or_eq_false_iff, decide_eq_false_iff_not] at h1
    omega
  obtain ⟨p, hp⟩ : ∃ p, p = recOk x := ⟨_, rfl⟩
  obtain ⟨s, hs⟩ : ∃ s, s = mkB (recL x) := ⟨_, rfl⟩
  obtain ⟨t, ht⟩ : ∃ t, t = decide (x = y) := ⟨_, rfl⟩
  obtain ⟨z, hz⟩ : ∃ z, z = sizeR x := ⟨_, rfl⟩
  obtain ⟨q, hq⟩ : ∃ q, q = mostR x.job x.sched x.needs := ⟨_, rfl⟩
  have C1 := hid (show ∀ w1, Below w.heap.size w w1 → Calls Try.prog 14 #[.agg #[.int .i64 x.kind, .int .i64 x.job, .int .i64 x.task, .int .i64 x.worker, .int .i64 x.sched, .int .i64 x.epoch, .slice A n c]] w1 (fun e w' => e = .returned (.bool p) ∧ Below w1.heap.size w1 w') from fun w1 h => by rw [hp]; exact recCheck_calls x A n c w1 (Kd.below hn h))
  have C2 := hid (show ∀ w1, Below w.heap.size w w1 → Calls Try.prog 15 #[.agg #[.int .i64 x.kind, .int .i64 x.job, .int .i64 x.task, .int .i64 x.worker, .int .i64 x.sched, .int .i64 x.epoch, .slice A n c]] w1 (fun e w' => e = .returned (.bool p) ∧ Below w1.heap.size w1 w') from fun w1 h => by rw [hp]; exact rcheck17_calls x A n c w1 (Kd.below hn h))
  have C3 := hid (show ∀ w1, Below w.heap.size w w1 → Calls Try.prog 16 #[.agg #[.int .i64 x.kind, .int .i64 x.job, .int .i64 x.task, .int .i64 x.worker, .int .i64 x.sched, .int .i64 x.epoch, .slice A n c]] w1 (fun e w' => ∃ A m c, e = .returned (.slice A m c) ∧ (∀ W, Below w'.heap.size w' W → (convert 27 9 (.slice A m c)).run Try.prog W = .ok (.string s) W) ∧ Below w1.heap.size w1 w') from fun w1 h => (recBytes_calls x A n c w1 (Kd.below hn h)).mono (fun e w' ⟨A, m, c, h1, h2, h3⟩ => ⟨A, m, c, h1, fun W hW => by rw [hs]; exact conv_u8 (Kd.below (Kd.any (Own.K h2)) hW), h3⟩))
  have C4 := hid (show ∀ w1, Below w.heap.size w w1 → Calls Try.prog 17 #[.agg #[.int .i64 x.kind, .int .i64 x.job, .int .i64 x.task, .int .i64 x.worker, .int .i64 x.sched, .int .i64 x.epoch, .slice A n c]] w1 (fun e w' => e = .returned (.string s) ∧ Below w1.heap.size w1 w') from fun w1 h => by rw [hs]; exact rbytes17_calls x A n c w1 (Kd.below hn h))
  have C5 := hid (show ∀ w1, Below w.heap.size w w1 → Calls Try.prog 18 #[.agg #[.int .i64 x.kind, .int .i64 x.job, .int .i64 x.task, .int .i64 x.worker, .int .i64 x.sched, .int .i64 x.epoch, .slice A n c], .agg #[.int .i64 y.kind, .int .i64 y.job, .int .i64 y.task, .int .i64 y.worker, .int .i64 y.sched, .int .i64 y.epoch, .slice B m d]] w1 (fun e w' => e = .returned (.bool t) ∧ Below w1.heap.size w1 w') from fun w1 h => by rw [ht]; exact recSame_calls x y A B n c m d w1 (Kd.below hn h) (Kd.below hm h))
  have C6 := hid (show ∀ w1, Below w.heap.size w w1 → Calls Try.prog 19 #[.agg #[.int .i64 x.kind, .int .i64 x.job, .int .i64 x.task, .int .i64 x.worker, .int .i64 x.sched, .int .i64 x.epoch, .slice A n c], .agg #[.int .i64 y.kind, .int .i64 y.job, .int .i64 y.task, .int .i64 y.worker, .int .i64 y.sched, .int .i64 y.epoch, .slice B m d]] w1 (fun e w' => e = .returned (.bool t) ∧ Below w1.heap.size w1 w') from fun w1 h => by rw [ht]; exact rsame17_calls x y A B n c m d w1 (Kd.below hn h) (Kd.below hm h))
  have C7 := hid (show ∀ w1, Below w.heap.size w w1 → Calls Try.prog 18 #[.agg #[.int .i64 x.kind, .int .i64 x.job, .int .i64 x.task, .int .i64 x.worker, .int .i64 x.sched, .int .i64 x.epoch, .slice A n c], .agg #[.int .i64 x.kind, .int .i64 x.job, .int .i64 x.task, .int .i64 x.worker, .int .i64 x.sched, .int .i64 x.epoch, .slice A n c]] w1 (fun e w' => e = .returned (.bool true) ∧ Below w1.heap.size w1 w') from fun w1 h => by have h5 := recSame_calls x x A A n c n c w1 (Kd.below hn h) (Kd.below hn h); rw [decide_eq_true (rfl : x = x)] at h5; exact h5)
  have C8 := hid (show ∀ w1, Below w.heap.size w w1 → Calls Try.prog 20 #[.agg #[.int .i64 x.kind, .int .i64 x.job, .int .i64 x.task, .int .i64 x.worker, .int .i64 x.sched, .int .i64 x.epoch, .slice A n c]] w1 (fun e w' => e = .returned (.int .i64 z) ∧ Below w1.heap.size w1 w') from fun w1 h => by rw [hz]; exact recSize_calls x A n c w1 (Kd.below hn h))
  have C9 := hid (show ∀ w1, Below w.heap.size w w1 → Calls Try.prog 21 #[.agg #[.int .i64 x.kind, .int .i64 x.job, .int .i64 x.task, .int .i64 x.worker, .int .i64 x.sched, .int .i64 x.epoch, .slice A n c]] w1 (fun e w' => e = .returned (.int .i64 z) ∧ Below w1.heap.size w1 w') from fun w1 h => by rw [hz]; exact rsize17_calls x A n c w1 (Kd.below hn h))
  have C10 := hid (show ∀ w1, Below w.heap.size w w1 → Calls Try.prog 22 #[.int .i64 x.job, .int .i64 x.sched, .slice A n c] w1 (fun e w' => e = .returned (.int .i64 q) ∧ Below w1.heap.size w1 w') from fun w1 h => by rw [hq]; exact recMost_calls x.job x.sched x.needs A n c w1 (Kd.below hn h) (by omega))
  have C11 := hid (show ∀ w1, Below w.heap.size w w1 → Calls Try.prog 23 #[.int .i64 x.job, .int .i64 x.sched, .slice A n c] w1 (fun e w' => e = .returned (.int .i64 q) ∧ Below w1.heap.size w1 w') from fun w1 h => by rw [hq]; exact rmost17_calls x.job x.sched x.needs A n c w1 (Kd.below hn h) (by omega))
  clear hp hs ht hz hq hn hm
  go_enter Try.func3, Try.ntmps3
  go_wp2_with fail
  obtain ⟨W0, hW0⟩ : ∃ W0, W0 = (w.alloc (Obj.cells #[.int .i64 x.kind, .int .i64 x.job, .int .i64 x.task, .int .i64 x.worker, .int .i64 x.sched, .int .i64 x.epoch, .slice A n c] 24)).alloc (Obj.cells #[.int .i64 y.kind, .int .i64 y.job, .int .i64 y.task, .int .i64 y.worker, .int .i64 y.sched, .int .i64 y.epoch, .slice B m d] 24) := ⟨_, rfl⟩
  have b0 : Below w.heap.size w W0 := by rw [hW0]; exact bAlloc (bAlloc (Below.refl _ _) _) _
  have HX0 : Hid (W0.heap[w.heap.size]? = some (.cells #[.int .i64 x.kind, .int .i64 x.job, .int .i64 x.task, .int .i64 x.worker, .int .i64 x.sched, .int .i64 x.epoch, .slice A n c] 24 (0, 0))) := by rw [hW0]; exact heap_old (by simp) (heap_at rfl)
  have HY0 : Hid (W0.heap[w.heap.size + 1]? = some (.cells #[.int .i64 y.kind, .int .i64 y.job, .int .i64 y.task, .int .i64 y.worker, .int .i64 y.sched, .int .i64 y.epoch, .slice B m d] 24 (0, 0))) := by rw [hW0]; exact heap_at (by simp)
  have hzx : w.heap.size < W0.heap.size := by rw [hW0]; simp; omega
  have hzy : w.heap.size + 1 < W0.heap.size := by rw [hW0]; simp
  rw [← hW0]
  clear hW0
  refine (LX.out _ b0).mono ?_
  rintro e w1 ⟨rfl, hb1⟩
  rw [h1]
  have qx := (cells_of_block ((Below.block hb1 _ hzx).trans HX0.out)).1
  have qx0 := qx 0 _ rfl
  have qx1 := qx 1 _ rfl
  have qx2 := qx 2 _ rfl
  have qx3 := qx 3 _ rfl
  have qx4 := qx 4 _ rfl
  have qx5 := qx 5 _ rfl
  have qx6 := qx 6 _ rfl
  clear qx
  have qy := (cells_of_block ((Below.block hb1 _ hzy).trans HY0.out)).1
  have qy0 := qy 0 _ rfl
  have qy1 := qy 1 _ rfl
  have qy2 := qy 2 _ rfl
  have qy3 := qy 3 _ rfl
  have qy4 := qy 4 _ rfl
  have qy5 := qy 5 _ rfl
  have qy6 := qy 6 _ rfl
  clear qy
  go_wp2_with fail
  refine (LY.out _ (bThen b0 hb1)).mono ?_
  rintro e w2 ⟨rfl, hb2⟩
  rw [h2]
  have b2 := bThen hb1 hb2
  clear qx0 qx1 qx2 qx3 qx4 qx5 qx6 qy0 qy1 qy2 qy3 qy4 qy5 qy6
  have qx := (cells_of_block ((Below.block b2 _ hzx).trans HX0.out)).1
  have qx0 := qx 0 _ rfl
  have qx1 := qx 1 _ rfl
  have qx2 := qx 2 _ rfl
  have qx3 := qx 3 _ rfl
  have qx4 := qx 4 _ rfl
  have qx5 := qx 5 _ rfl
  have qx6 := qx 6 _ rfl
  clear qx
  have qy := (cells_of_block ((Below.block b2 _ hzy).trans HY0.out)).1
  have qy0 := qy 0 _ rfl
  have qy1 := qy 1 _ rfl
  have qy2 := qy 2 _ rfl
  have qy3 := qy 3 _ rfl
  have qy4 := qy 4 _ rfl
  have qy5 := qy 5 _ rfl
  have qy6 := qy 6 _ rfl
  clear qy
  go_wp2_with fail
  refine wp_region_held_drew (S := fun w' => w'.cell? ⟨w.heap.size, 0, none⟩ = some (.int .i64 x.kind) ∧ w'.cell? ⟨w.heap.size, 1, none⟩ = some (.int .i64 x.job) ∧ w'.cell? ⟨w.heap.size, 2, none⟩ = some (.int .i64 x.task) ∧ w'.cell? ⟨w.heap.size, 3, none⟩ = some (.int .i64 x.worker) ∧ w'.cell? ⟨w.heap.size, 4, none⟩ = some (.int .i64 x.sched) ∧ w'.cell? ⟨w.heap.size, 5, none⟩ = some (.int .i64 x.epoch) ∧ w'.cell? ⟨w.heap.size, 6, none⟩ = some (.slice A n c) ∧ w'.cell? ⟨w.heap.size + 1, 0, none⟩ = some (.int .i64 y.kind) ∧ w'.cell? ⟨w.heap.size + 1, 1, none⟩ = some (.int .i64 y.job) ∧ w'.cell? ⟨w.heap.size + 1, 2, none⟩ = some (.int .i64 y.task) ∧ w'.cell? ⟨w.heap.size + 1, 3, none⟩ = some (.int .i64 y.worker) ∧ w'.cell? ⟨w.heap.size + 1, 4, none⟩ = some (.int .i64 y.sched) ∧ w'.cell? ⟨w.heap.size + 1, 5, none⟩ = some (.int .i64 y.epoch) ∧ w'.cell? ⟨w.heap.size + 1, 6, none⟩ = some (.slice B m d)) (by kernel_rfl) ⟨qx0, qx1, qx2, qx3, qx4, qx5, qx6, qy0, qy1, qy2, qy3, qy4, qy5, qy6⟩ (fun hHeld => ?_)
  refine anyH_take 0 (v := ?_) rfl (by kernel_rfl) (by kernel_rfl) (by kernel_rfl) (fun _ _ _ h => h) (by rfl) hHeld ?_ ?_
  rotate_left
  · (intro w hSw; (try dsimp only at hSw); go_split_ands; go_simp; try with_reducible rfl)
  (try simp only [Act.put, List.setIfInBounds_toArray, List.set_cons_zero, List.set_cons_succ])
  refine anyH_take 2 (v := ?_) rfl (by kernel_rfl) (by kernel_rfl) (by kernel_rfl) (fun _ _ _ h => h) (by rfl) hHeld ?_ ?_
  rotate_left
  · (intro w hSw; (try dsimp only at hSw); go_split_ands; go_simp; try with_reducible rfl)
  (try simp only [Act.put, List.setIfInBounds_toArray, List.set_cons_zero, List.set_cons_succ])
  refine anyH_one 1 rfl (by kernel_rfl) (fun K hK => ?_)
  go_simp
  refine (C1.out _ (bThen b0 b2.drew)).mono ?_
  rintro e v1 ⟨rfl, hb1⟩
  have k1 : Below W0.heap.size W0 v1 := bThen b2.drew hb1
  have r1x := (cells_of_block ((Below.block k1 _ hzx).trans HX0.out)).1
  have r1x0 := r1x 0 _ rfl
  have r1x1 := r1x 1 _ rfl
  have r1x2 := r1x 2 _ rfl
  have r1x3 := r1x 3 _ rfl
  have r1x4 := r1x 4 _ rfl
  have r1x5 := r1x 5 _ rfl
  have r1x6 := r1x 6 _ rfl
  clear r1x
  have r1y := (cells_of_block ((Below.block k1 _ hzy).trans HY0.out)).1
  have r1y0 := r1y 0 _ rfl
  have r1y1 := r1y 1 _ rfl
  have r1y2 := r1y 2 _ rfl
  have r1y3 := r1y 3 _ rfl
  have r1y4 := r1y 4 _ rfl
  have r1y5 := r1y 5 _ rfl
  have r1y6 := r1y 6 _ rfl
  clear r1y
  go_simp
  refine hK.out _ _ ⟨r1x0, r1x1, r1x2, r1x3, r1x4, r1x5, r1x6, r1y0, r1y1, r1y2, r1y3, r1y4, r1y5, r1y6⟩ (fun hHeld => ?_)
  clear hK K
  (try simp only [Act.put, List.setIfInBounds_toArray, List.set_cons_zero, List.set_cons_succ])
  clear r1x0 r1x1 r1x2 r1x3 r1x4 r1x5 r1x6 r1y0 r1y1 r1y2 r1y3 r1y4 r1y5 r1y6
  refine anyH_one 3 rfl (by kernel_rfl) (fun K hK => ?_)
  go_simp
  refine (C2.out _ (bThen b0 k1)).mono ?_
  rintro e v2 ⟨rfl, hb2⟩
  have k2 : Below W0.heap.size W0 v2 := bThen k1 hb2
  have r2x := (cells_of_block ((Below.block k2 _ hzx).trans HX0.out)).1
  have r2x0 := r2x 0 _ rfl
  have r2x1 := r2x 1 _ rfl
  have r2x2 := r2x 2 _ rfl
  have r2x3 := r2x 3 _ rfl
  have r2x4 := r2x 4 _ rfl
  have r2x5 := r2x 5 _ rfl
  have r2x6 := r2x 6 _ rfl
  clear r2x
  have r2y := (cells_of_block ((Below.block k2 _ hzy).trans HY0.out)).1
  have r2y0 := r2y 0 _ rfl
  have r2y1 := r2y 1 _ rfl
  have r2y2 := r2y 2 _ rfl
  have r2y3 := r2y 3 _ rfl
  have r2y4 := r2y 4 _ rfl
  have r2y5 := r2y 5 _ rfl
  have r2y6 := r2y 6 _ rfl
  clear r2y
  go_simp
  refine hK.out _ _ ⟨r2x0, r2x1, r2x2, r2x3, r2x4, r2x5, r2x6, r2y0, r2y1, r2y2, r2y3, r2y4, r2y5, r2y6⟩ (fun hHeld => ?_)
  clear hK K
  (try simp only [Act.put, List.setIfInBounds_toArray, List.set_cons_zero, List.set_cons_succ])
  clear r2x0 r2x1 r2x2 r2x3 r2x4 r2x5 r2x6 r2y0 r2y1 r2y2 r2y3 r2y4 r2y5 r2y6
  refine anyH_take 4 (v := ?_) rfl (by kernel_rfl) (by kernel_rfl) (by kernel_rfl) (fun _ _ _ h => h) (by rfl) hHeld ?_ ?_
  rotate_left
  · (intro w hSw; (try dsimp only at hSw); go_split_ands; go_simp; try with_reducible rfl)
  (try simp only [Act.put, List.setIfInBounds_toArray, List.set_cons_zero, List.set_cons_succ])
  refine anyH_take 5 (v := ?_) rfl (by kernel_rfl) (by kernel_rfl) (by kernel_rfl) (fun _ _ _ h => h) (by rfl) hHeld ?_ ?_
  rotate_left
  · (intro w hSw; (try dsimp only at hSw); go_split_ands; go_simp; try with_reducible rfl)
  (try simp only [Act.put, List.setIfInBounds_toArray, List.set_cons_zero, List.set_cons_succ])
  refine anyH_take 6 (v := ?_) rfl (by kernel_rfl) (by kernel_rfl) (by kernel_rfl) (fun _ _ _ h => h) (by rfl) hHeld ?_ ?_
  rotate_left
  · (intro w hSw; (try dsimp only at hSw); go_split_ands; go_simp; try with_reducible rfl)
  (try simp only [Act.put, List.setIfInBounds_toArray, List.set_cons_zero, List.set_cons_succ])
  refine anyH_take 9 (v := ?_) rfl (by kernel_rfl) (by kernel_rfl) (by kernel_rfl) (fun _ _ _ h => h) (by rfl) hHeld ?_ ?_
  rotate_left
  · (intro w hSw; (try dsimp only at hSw); go_split_ands; go_simp; try with_reducible rfl)
  (try simp only [Act.put, List.setIfInBounds_toArray, List.set_cons_zero, List.set_cons_succ])
  refine anyH_one 7 rfl (by kernel_rfl) (fun K hK => ?_)
  go_simp
  refine (C3.out _ (bThen b0 k2)).mono ?_
  rintro e v3 ⟨A3, m3, c3, rfl, hcv, hb3⟩
  have k3 : Below W0.heap.size W0 v3 := bThen k2 hb3
  have r3x := (cells_of_block ((Below.block k3 _ hzx).trans HX0.out)).1
  have r3x0 := r3x 0 _ rfl
  have r3x1 := r3x 1 _ rfl
  have r3x2 := r3x 2 _ rfl
  have r3x3 := r3x 3 _ rfl
  have r3x4 := r3x 4 _ rfl
  have r3x5 := r3x 5 _ rfl
  have r3x6 := r3x 6 _ rfl
  clear r3x
  have r3y := (cells_of_block ((Below.block k3 _ hzy).trans HY0.out)).1
  have r3y0 := r3y 0 _ rfl
  have r3y1 := r3y 1 _ rfl
  have r3y2 := r3y 2 _ rfl
  have r3y3 := r3y 3 _ rfl
  have r3y4 := r3y 4 _ rfl
  have r3y5 := r3y 5 _ rfl
  have r3y6 := r3y 6 _ rfl
  clear r3y
  go_simp
  refine hK.out _ _ ⟨r3x0, r3x1, r3x2, r3x3, r3x4, r3x5, r3x6, r3y0, r3y1, r3y2, r3y3, r3y4, r3y5, r3y6⟩ (fun hHeld => ?_)
  clear hK K
  (try simp only [Act.put, List.setIfInBounds_toArray, List.set_cons_zero, List.set_cons_succ])
  clear r3x0 r3x1 r3x2 r3x3 r3x4 r3x5 r3x6 r3y0 r3y1 r3y2 r3y3 r3y4 r3y5 r3y6
  refine wpAnyH_more (S1 := fun w' => (w'.cell? ⟨w.heap.size, 0, none⟩ = some (.int .i64 x.kind) ∧ w'.cell? ⟨w.heap.size, 1, none⟩ = some (.int .i64 x.job) ∧ w'.cell? ⟨w.heap.size, 2, none⟩ = some (.int .i64 x.task) ∧ w'.cell? ⟨w.heap.size, 3, none⟩ = some (.int .i64 x.worker) ∧ w'.cell? ⟨w.heap.size, 4, none⟩ = some (.int .i64 x.sched) ∧ w'.cell? ⟨w.heap.size, 5, none⟩ = some (.int .i64 x.epoch) ∧ w'.cell? ⟨w.heap.size, 6, none⟩ = some (.slice A n c) ∧ w'.cell? ⟨w.heap.size + 1, 0, none⟩ = some (.int .i64 y.kind) ∧ w'.cell? ⟨w.heap.size + 1, 1, none⟩ = some (.int .i64 y.job) ∧ w'.cell? ⟨w.heap.size + 1, 2, none⟩ = some (.int .i64 y.task) ∧ w'.cell? ⟨w.heap.size + 1, 3, none⟩ = some (.int .i64 y.worker) ∧ w'.cell? ⟨w.heap.size + 1, 4, none⟩ = some (.int .i64 y.sched) ∧ w'.cell? ⟨w.heap.size + 1, 5, none⟩ = some (.int .i64 y.epoch) ∧ w'.cell? ⟨w.heap.size + 1, 6, none⟩ = some (.slice B m d)) ∧ (convert 27 9 (.slice A3 m3 c3)).run Try.prog w' = .ok (.string s) w') (fun _ h => h.1) _ _ _ _ ?_
  refine anyH_take 8 (v := ?_) rfl (by kernel_rfl) (by kernel_rfl) (by kernel_rfl) (fun _ _ _ h => h) (by rfl) ⟨hHeld, hcv _ (Below.refl _ _)⟩ ?_ ?_
  rotate_left
  · (intro w hSw; (try dsimp only at hSw); go_split_ands; go_simp; try with_reducible rfl)
  (try simp only [Act.put, List.setIfInBounds_toArray, List.set_cons_zero, List.set_cons_succ])
  refine anyH_one 10 rfl (by kernel_rfl) (fun K hK => ?_)
  go_simp
  refine (C4.out _ (bThen b0 k3)).mono ?_
  rintro e v4 ⟨rfl, hb4⟩
  have k4 : Below W0.heap.size W0 v4 := bThen k3 hb4
  have kk4 := hb4
  have r4x := (cells_of_block ((Below.block k4 _ hzx).trans HX0.out)).1
  have r4x0 := r4x 0 _ rfl
  have r4x1 := r4x 1 _ rfl
  have r4x2 := r4x 2 _ rfl
  have r4x3 := r4x 3 _ rfl
  have r4x4 := r4x 4 _ rfl
  have r4x5 := r4x 5 _ rfl
  have r4x6 := r4x 6 _ rfl
  clear r4x
  have r4y := (cells_of_block ((Below.block k4 _ hzy).trans HY0.out)).1
  have r4y0 := r4y 0 _ rfl
  have r4y1 := r4y 1 _ rfl
  have r4y2 := r4y 2 _ rfl
  have r4y3 := r4y 3 _ rfl
  have r4y4 := r4y 4 _ rfl
  have r4y5 := r4y 5 _ rfl
  have r4y6 := r4y 6 _ rfl
  clear r4y
  go_simp
  refine hK.out _ _ ⟨⟨r4x0, r4x1, r4x2, r4x3, r4x4, r4x5, r4x6, r4y0, r4y1, r4y2, r4y3, r4y4, r4y5, r4y6⟩, hcv _ kk4⟩ (fun hHeld => ?_)
  clear hK K
  (try simp only [Act.put, List.setIfInBounds_toArray, List.set_cons_zero, List.set_cons_succ])
  clear r4x0 r4x1 r4x2 r4x3 r4x4 r4x5 r4x6 r4y0 r4y1 r4y2 r4y3 r4y4 r4y5 r4y6
  refine anyH_take 11 (v := ?_) rfl (by kernel_rfl) (by kernel_rfl) (by kernel_rfl) (fun _ _ _ h => h) (by rfl) hHeld ?_ ?_
  rotate_left
  · (intro w hSw; (try dsimp only at hSw); go_split_ands; go_simp; try with_reducible rfl)
  (try simp only [Act.put, List.setIfInBounds_toArray, List.set_cons_zero, List.set_cons_succ])
  refine anyH_take 12 (v := ?_) rfl (by kernel_rfl) (by kernel_rfl) (by kernel_rfl) (fun _ _ _ h => h) (by rfl) hHeld ?_ ?_
  rotate_left
  · (intro w hSw; (try dsimp only at hSw); go_split_ands; go_simp; try with_reducible rfl)
  (try simp only [Act.put, List.setIfInBounds_toArray, List.set_cons_zero, List.set_cons_succ])
  refine anyH_take 13 (v := ?_) rfl (by kernel_rfl) (by kernel_rfl) (by kernel_rfl) (fun _ _ _ h => h) (by rfl) hHeld ?_ ?_
  rotate_left
  · (intro w hSw; (try dsimp only at hSw); go_split_ands; go_simp; try with_reducible rfl)
  (try simp only [Act.put, List.setIfInBounds_toArray, List.set_cons_zero, List.set_cons_succ])
  refine anyH_take 14 (v := ?_) rfl (by kernel_rfl) (by kernel_rfl) (by kernel_rfl) (fun _ _ _ h => h) (by rfl) hHeld ?_ ?_
  rotate_left
  · (intro w hSw; (try dsimp only at hSw); go_split_ands; go_simp; try with_reducible rfl)
  (try simp only [Act.put, List.setIfInBounds_toArray, List.set_cons_zero, List.set_cons_succ])
  refine anyH_take 15 (v := ?_) rfl (by kernel_rfl) (by kernel_rfl) (by kernel_rfl) (fun _ _ _ h => h) (by rfl) hHeld ?_ ?_
  rotate_left
  · (intro w hSw; (try dsimp only at hSw); go_split_ands; go_simp; try with_reducible rfl)
  (try simp only [Act.put, List.setIfInBounds_toArray, List.set_cons_zero, List.set_cons_succ])
  refine anyH_take 17 (v := ?_) rfl (by kernel_rfl) (by kernel_rfl) (by kernel_rfl) (fun _ _ _ h => h) (by rfl) hHeld ?_ ?_
  rotate_left
  · (intro w hSw; (try dsimp only at hSw); go_split_ands; go_simp; try with_reducible rfl)
  (try simp only [Act.put, List.setIfInBounds_toArray, List.set_cons_zero, List.set_cons_succ])
  refine anyH_take 18 (v := ?_) rfl (by kernel_rfl) (by kernel_rfl) (by kernel_rfl) (fun _ _ _ h => h) (by rfl) hHeld ?_ ?_
  rotate_left
  · (intro w hSw; (try dsimp only at hSw); go_split_ands; go_simp; try with_reducible rfl)
  (try simp only [Act.put, List.setIfInBounds_toArray, List.set_cons_zero, List.set_cons_succ])
  refine anyH_one 16 rfl (by kernel_rfl) (fun K hK => ?_)
  go_simp
  refine (C5.out _ (bThen b0 k4)).mono ?_
  rintro e v5 ⟨rfl, hb5⟩
  have k5 : Below W0.heap.size W0 v5 := bThen k4 hb5
  have kk5 := bThen kk4 hb5
  have r5x := (cells_of_block ((Below.block k5 _ hzx).trans HX0.out)).1
  have r5x0 := r5x 0 _ rfl
  have r5x1 := r5x 1 _ rfl
  have r5x2 := r5x 2 _ rfl
  have r5x3 := r5x 3 _ rfl
  have r5x4 := r5x 4 _ rfl
  have r5x5 := r5x 5 _ rfl
  have r5x6 := r5x 6 _ rfl
  clear r5x
  have r5y := (cells_of_block ((Below.block k5 _ hzy).trans HY0.out)).1
  have r5y0 := r5y 0 _ rfl
  have r5y1 := r5y 1 _ rfl
  have r5y2 := r5y 2 _ rfl
  have r5y3 := r5y 3 _ rfl
  have r5y4 := r5y 4 _ rfl
  have r5y5 := r5y 5 _ rfl
  have r5y6 := r5y 6 _ rfl
  clear r5y
  go_simp
  refine hK.out _ _ ⟨⟨r5x0, r5x1, r5x2, r5x3, r5x4, r5x5, r5x6, r5y0, r5y1, r5y2, r5y3, r5y4, r5y5, r5y6⟩, hcv _ kk5⟩ (fun hHeld => ?_)
  clear hK K
  (try simp only [Act.put, List.setIfInBounds_toArray, List.set_cons_zero, List.set_cons_succ])
  clear r5x0 r5x1 r5x2 r5x3 r5x4 r5x5 r5x6 r5y0 r5y1 r5y2 r5y3 r5y4 r5y5 r5y6
  refine anyH_one 19 rfl (by kernel_rfl) (fun K hK => ?_)
  go_simp
  refine (C6.out _ (bThen b0 k5)).mono ?_
  rintro e v6 ⟨rfl, hb6⟩
  have k6 : Below W0.heap.size W0 v6 := bThen k5 hb6
  have kk6 := bThen kk5 hb6
  have r6x := (cells_of_block ((Below.block k6 _ hzx).trans HX0.out)).1
  have r6x0 := r6x 0 _ rfl
  have r6x1 := r6x 1 _ rfl
  have r6x2 := r6x 2 _ rfl
  have r6x3 := r6x 3 _ rfl
  have r6x4 := r6x 4 _ rfl
  have r6x5 := r6x 5 _ rfl
  have r6x6 := r6x 6 _ rfl
  clear r6x
  have r6y := (cells_of_block ((Below.block k6 _ hzy).trans HY0.out)).1
  have r6y0 := r6y 0 _ rfl
  have r6y1 := r6y 1 _ rfl
  have r6y2 := r6y 2 _ rfl
  have r6y3 := r6y 3 _ rfl
  have r6y4 := r6y 4 _ rfl
  have r6y5 := r6y 5 _ rfl
  have r6y6 := r6y 6 _ rfl
  clear r6y
  go_simp
  refine hK.out _ _ ⟨⟨r6x0, r6x1, r6x2, r6x3, r6x4, r6x5, r6x6, r6y0, r6y1, r6y2, r6y3, r6y4, r6y5, r6y6⟩, hcv _ kk6⟩ (fun hHeld => ?_)
  clear hK K
  (try simp only [Act.put, List.setIfInBounds_toArray, List.set_cons_zero, List.set_cons_succ])
  clear r6x0 r6x1 r6x2 r6x3 r6x4 r6x5 r6x6 r6y0 r6y1 r6y2 r6y3 r6y4 r6y5 r6y6
  refine anyH_take 20 (v := ?_) rfl (by kernel_rfl) (by kernel_rfl) (by kernel_rfl) (fun _ _ _ h => h) (by rfl) hHeld ?_ ?_
  rotate_left
  · (intro w hSw; (try dsimp only at hSw); go_split_ands; go_simp; try with_reducible rfl)
  (try simp only [Act.put, List.setIfInBounds_toArray, List.set_cons_zero, List.set_cons_succ])
  refine anyH_take 21 (v := ?_) rfl (by kernel_rfl) (by kernel_rfl) (by kernel_rfl) (fun _ _ _ h => h) (by rfl) hHeld ?_ ?_
  rotate_left
  · (intro w hSw; (try dsimp only at hSw); go_split_ands; go_simp; try with_reducible rfl)
  (try simp only [Act.put, List.setIfInBounds_toArray, List.set_cons_zero, List.set_cons_succ])
  refine anyH_take 22 (v := ?_) rfl (by kernel_rfl) (by kernel_rfl) (by kernel_rfl) (fun _ _ _ h => h) (by rfl) hHeld ?_ ?_
  rotate_left
  · (intro w hSw; (try dsimp only at hSw); go_split_ands; go_simp; try with_reducible rfl)
  (try simp only [Act.put, List.setIfInBounds_toArray, List.set_cons_zero, List.set_cons_succ])
  refine anyH_take 23 (v := ?_) rfl (by kernel_rfl) (by kernel_rfl) (by kernel_rfl) (fun _ _ _ h => h) (by rfl) hHeld ?_ ?_
  rotate_left
  · (intro w hSw; (try dsimp only at hSw); go_split_ands; go_simp; try with_reducible rfl)
  (try simp only [Act.put, List.setIfInBounds_toArray, List.set_cons_zero, List.set_cons_succ])
  refine anyH_take 24 (v := ?_) rfl (by kernel_rfl) (by kernel_rfl) (by kernel_rfl) (fun _ _ _ h => h) (by rfl) hHeld ?_ ?_
  rotate_left
  · (intro w hSw; (try dsimp only at hSw); go_split_ands; go_simp; try with_reducible rfl)
  (try simp only [Act.put, List.setIfInBounds_toArray, List.set_cons_zero, List.set_cons_succ])
  refine anyH_one 25 rfl (by kernel_rfl) (fun K hK => ?_)
  go_simp
  refine (C7.out _ (bThen b0 k6)).mono ?_
  rintro e v7 ⟨rfl, hb7⟩
  have k7 : Below W0.heap.size W0 v7 := bThen k6 hb7
  have kk7 := bThen kk6 hb7
  have r7x := (cells_of_block ((Below.block k7 _ hzx).trans HX0.out)).1
  have r7x0 := r7x 0 _ rfl
  have r7x1 := r7x 1 _ rfl
  have r7x2 := r7x 2 _ rfl
  have r7x3 := r7x 3 _ rfl
  have r7x4 := r7x 4 _ rfl
  have r7x5 := r7x 5 _ rfl
  have r7x6 := r7x 6 _ rfl
  clear r7x
  have r7y := (cells_of_block ((Below.block k7 _ hzy).trans HY0.out)).1
  have r7y0 := r7y 0 _ rfl
  have r7y1 := r7y 1 _ rfl
  have r7y2 := r7y 2 _ rfl
  have r7y3 := r7y 3 _ rfl
  have r7y4 := r7y 4 _ rfl
  have r7y5 := r7y 5 _ rfl
  have r7y6 := r7y 6 _ rfl
  clear r7y
  go_simp
  refine hK.out _ _ ⟨⟨r7x0, r7x1, r7x2, r7x3, r7x4, r7x5, r7x6, r7y0, r7y1, r7y2, r7y3, r7y4, r7y5, r7y6⟩, hcv _ kk7⟩ (fun hHeld => ?_)
  clear hK K
  (try simp only [Act.put, List.setIfInBounds_toArray, List.set_cons_zero, List.set_cons_succ])
  clear r7x0 r7x1 r7x2 r7x3 r7x4 r7x5 r7x6 r7y0 r7y1 r7y2 r7y3 r7y4 r7y5 r7y6
  refine anyH_take 26 (v := ?_) rfl (by kernel_rfl) (by kernel_rfl) (by kernel_rfl) (fun _ _ _ h => h) (by rfl) hHeld ?_ ?_
  rotate_left
  · (intro w hSw; (try dsimp only at hSw); go_split_ands; go_simp; try with_reducible rfl)
  (try simp only [Act.put, List.setIfInBounds_toArray, List.set_cons_zero, List.set_cons_succ])
  refine anyH_take 27 (v := ?_) rfl (by kernel_rfl) (by kernel_rfl) (by kernel_rfl) (fun _ _ _ h => h) (by rfl) hHeld ?_ ?_
  rotate_left
  · (intro w hSw; (try dsimp only at hSw); go_split_ands; go_simp; try with_reducible rfl)
  (try simp only [Act.put, List.setIfInBounds_toArray, List.set_cons_zero, List.set_cons_succ])
  refine anyH_take 28 (v := ?_) rfl (by kernel_rfl) (by kernel_rfl) (by kernel_rfl) (fun _ _ _ h => h) (by rfl) hHeld ?_ ?_
  rotate_left
  · (intro w hSw; (try dsimp only at hSw); go_split_ands; go_simp; try with_reducible rfl)
  (try simp only [Act.put, List.setIfInBounds_toArray, List.set_cons_zero, List.set_cons_succ])
  refine anyH_take 30 (v := ?_) rfl (by kernel_rfl) (by kernel_rfl) (by kernel_rfl) (fun _ _ _ h => h) (by rfl) hHeld ?_ ?_
  rotate_left
  · (intro w hSw; (try dsimp only at hSw); go_split_ands; go_simp; try with_reducible rfl)
  (try simp only [Act.put, List.setIfInBounds_toArray, List.set_cons_zero, List.set_cons_succ])
  refine anyH_one 29 rfl (by kernel_rfl) (fun K hK => ?_)
  go_simp
  refine (C8.out _ (bThen b0 k7)).mono ?_
  rintro e v8 ⟨rfl, hb8⟩
  have k8 : Below W0.heap.size W0 v8 := bThen k7 hb8
  have kk8 := bThen kk7 hb8
  have r8x := (cells_of_block ((Below.block k8 _ hzx).trans HX0.out)).1
  have r8x0 := r8x 0 _ rfl
  have r8x1 := r8x 1 _ rfl
  have r8x2 := r8x 2 _ rfl
  have r8x3 := r8x 3 _ rfl
  have r8x4 := r8x 4 _ rfl
  have r8x5 := r8x 5 _ rfl
  have r8x6 := r8x 6 _ rfl
  clear r8x
  have r8y := (cells_of_block ((Below.block k8 _ hzy).trans HY0.out)).1
  have r8y0 := r8y 0 _ rfl
  have r8y1 := r8y 1 _ rfl
  have r8y2 := r8y 2 _ rfl
  have r8y3 := r8y 3 _ rfl
  have r8y4 := r8y 4 _ rfl
  have r8y5 := r8y 5 _ rfl
  have r8y6 := r8y 6 _ rfl
  clear r8y
  go_simp
  refine hK.out _ _ ⟨⟨r8x0, r8x1, r8x2, r8x3, r8x4, r8x5, r8x6, r8y0, r8y1, r8y2, r8y3, r8y4, r8y5, r8y6⟩, hcv _ kk8⟩ (fun hHeld => ?_)
  clear hK K
  (try simp only [Act.put, List.setIfInBounds_toArray, List.set_cons_zero, List.set_cons_succ])
  clear r8x0 r8x1 r8x2 r8x3 r8x4 r8x5 r8x6 r8y0 r8y1 r8y2 r8y3 r8y4 r8y5 r8y6
  refine anyH_one 31 rfl (by kernel_rfl) (fun K hK => ?_)
  go_simp
  refine (C9.out _ (bThen b0 k8)).mono ?_
  rintro e v9 ⟨rfl, hb9⟩
  have k9 : Below W0.heap.size W0 v9 := bThen k8 hb9
  have kk9 := bThen kk8 hb9
  have r9x := (cells_of_block ((Below.block k9 _ hzx).trans HX0.out)).1
  have r9x0 := r9x 0 _ rfl
  have r9x1 := r9x 1 _ rfl
  have r9x2 := r9x 2 _ rfl
  have r9x3 := r9x 3 _ rfl
  have r9x4 := r9x 4 _ rfl
  have r9x5 := r9x 5 _ rfl
  have r9x6 := r9x 6 _ rfl
  clear r9x
  have r9y := (cells_of_block ((Below.block k9 _ hzy).trans HY0.out)).1
  have r9y0 := r9y 0 _ rfl
  have r9y1 := r9y 1 _ rfl
  have r9y2 := r9y 2 _ rfl
  have r9y3 := r9y 3 _ rfl
  have r9y4 := r9y 4 _ rfl
  have r9y5 := r9y 5 _ rfl
  have r9y6 := r9y 6 _ rfl
  clear r9y
  go_simp
  refine hK.out _ _ ⟨⟨r9x0, r9x1, r9x2, r9x3, r9x4, r9x5, r9x6, r9y0, r9y1, r9y2, r9y3, r9y4, r9y5, r9y6⟩, hcv _ kk9⟩ (fun hHeld => ?_)
  clear hK K
  (try simp only [Act.put, List.setIfInBounds_toArray, List.set_cons_zero, List.set_cons_succ])
  clear r9x0 r9x1 r9x2 r9x3 r9x4 r9x5 r9x6 r9y0 r9y1 r9y2 r9y3 r9y4 r9y5 r9y6
  refine anyH_take 32 (v := ?_) rfl (by kernel_rfl) (by kernel_rfl) (by kernel_rfl) (fun _ _ _ h => h) (by rfl) hHeld ?_ ?_
  rotate_left
  · (intro w hSw; (try dsimp only at hSw); go_split_ands; go_simp; try with_reducible rfl)
  (try simp only [Act.put, List.setIfInBounds_toArray, List.set_cons_zero, List.set_cons_succ])
  refine anyH_take 33 (v := ?_) rfl (by kernel_rfl) (by kernel_rfl) (by kernel_rfl) (fun _ _ _ h => h) (by rfl) hHeld ?_ ?_
  rotate_left
  · (intro w hSw; (try dsimp only at hSw); go_split_ands; go_simp; try with_reducible rfl)
  (try simp only [Act.put, List.setIfInBounds_toArray, List.set_cons_zero, List.set_cons_succ])
  refine anyH_take 34 (v := ?_) rfl (by kernel_rfl) (by kernel_rfl) (by kernel_rfl) (fun _ _ _ h => h) (by rfl) hHeld ?_ ?_
  rotate_left
  · (intro w hSw; (try dsimp only at hSw); go_split_ands; go_simp; try with_reducible rfl)
  (try simp only [Act.put, List.setIfInBounds_toArray, List.set_cons_zero, List.set_cons_succ])
  refine anyH_take 35 (v := ?_) rfl (by kernel_rfl) (by kernel_rfl) (by kernel_rfl) (fun _ _ _ h => h) (by rfl) hHeld ?_ ?_
  rotate_left
  · (intro w hSw; (try dsimp only at hSw); go_split_ands; go_simp; try with_reducible rfl)
  (try simp only [Act.put, List.setIfInBounds_toArray, List.set_cons_zero, List.set_cons_succ])
  refine anyH_take 36 (v := ?_) rfl (by kernel_rfl) (by kernel_rfl) (by kernel_rfl) (fun _ _ _ h => h) (by rfl) hHeld ?_ ?_
  rotate_left
  · (intro w hSw; (try dsimp only at hSw); go_split_ands; go_simp; try with_reducible rfl)
  (try simp only [Act.put, List.setIfInBounds_toArray, List.set_cons_zero, List.set_cons_succ])
  refine anyH_take 37 (v := ?_) rfl (by kernel_rfl) (by kernel_rfl) (by kernel_rfl) (fun _ _ _ h => h) (by rfl) hHeld ?_ ?_
  rotate_left
  · (intro w hSw; (try dsimp only at hSw); go_split_ands; go_simp; try with_reducible rfl)
  (try simp only [Act.put, List.setIfInBounds_toArray, List.set_cons_zero, List.set_cons_succ])
  refine anyH_take 38 (v := ?_) rfl (by kernel_rfl) (by kernel_rfl) (by kernel_rfl) (fun _ _ _ h => h) (by rfl) hHeld ?_ ?_
  rotate_left
  · (intro w hSw; (try dsimp only at hSw); go_split_ands; go_simp; try with_reducible rfl)
  (try simp only [Act.put, List.setIfInBounds_toArray, List.set_cons_zero, List.set_cons_succ])
  refine anyH_take 39 (v := ?_) rfl (by kernel_rfl) (by kernel_rfl) (by kernel_rfl) (fun _ _ _ h => h) (by rfl) hHeld ?_ ?_
  rotate_left
  · (intro w hSw; (try dsimp only at hSw); go_split_ands; go_simp; try with_reducible rfl)
  (try simp only [Act.put, List.setIfInBounds_toArray, List.set_cons_zero, List.set_cons_succ])
  refine anyH_take 40 (v := ?_) rfl (by kernel_rfl) (by kernel_rfl) (by kernel_rfl) (fun _ _ _ h => h) (by rfl) hHeld ?_ ?_
  rotate_left
  · (intro w hSw; (try dsimp only at hSw); go_split_ands; go_simp; try with_reducible rfl)
  (try simp only [Act.put, List.setIfInBounds_toArray, List.set_cons_zero, List.set_cons_succ])
  refine anyH_take 42 (v := ?_) rfl (by kernel_rfl) (by kernel_rfl) (by kernel_rfl) (fun _ _ _ h => h) (by rfl) hHeld ?_ ?_
  rotate_left
  · (intro w hSw; (try dsimp only at hSw); go_split_ands; go_simp; try with_reducible rfl)
  (try simp only [Act.put, List.setIfInBounds_toArray, List.set_cons_zero, List.set_cons_succ])
  refine anyH_take 43 (v := ?_) rfl (by kernel_rfl) (by kernel_rfl) (by kernel_rfl) (fun _ _ _ h => h) (by rfl) hHeld ?_ ?_
  rotate_left
  · (intro w hSw; (try dsimp only at hSw); go_split_ands; go_simp; try with_reducible rfl)
  (try simp only [Act.put, List.setIfInBounds_toArray, List.set_cons_zero, List.set_cons_succ])
  refine anyH_take 44 (v := ?_) rfl (by kernel_rfl) (by kernel_rfl) (by kernel_rfl) (fun _ _ _ h => h) (by rfl) hHeld ?_ ?_
  rotate_left
  · (intro w hSw; (try dsimp only at hSw); go_split_ands; go_simp; try with_reducible rfl)
  (try simp only [Act.put, List.setIfInBounds_toArray, List.set_cons_zero, List.set_cons_succ])
  refine anyH_take 45 (v := ?_) rfl (by kernel_rfl) (by kernel_rfl) (by kernel_rfl) (fun _ _ _ h => h) (by rfl) hHeld ?_ ?_
  rotate_left
  · (intro w hSw; (try dsimp only at hSw); go_split_ands; go_simp; try with_reducible rfl)
  (try simp only [Act.put, List.setIfInBounds_toArray, List.set_cons_zero, List.set_cons_succ])
  refine anyH_take 46 (v := ?_) rfl (by kernel_rfl) (by kernel_rfl) (by kernel_rfl) (fun _ _ _ h => h) (by rfl) hHeld ?_ ?_
  rotate_left
  · (intro w hSw; (try dsimp only at hSw); go_split_ands; go_simp; try with_reducible rfl)
  (try simp only [Act.put, List.setIfInBounds_toArray, List.set_cons_zero, List.set_cons_succ])
  refine anyH_take 47 (v := ?_) rfl (by kernel_rfl) (by kernel_rfl) (by kernel_rfl) (fun _ _ _ h => h) (by rfl) hHeld ?_ ?_
  rotate_left
  · (intro w hSw; (try dsimp only at hSw); go_split_ands; go_simp; try with_reducible rfl)
  (try simp only [Act.put, List.setIfInBounds_toArray, List.set_cons_zero, List.set_cons_succ])
  refine anyH_one 41 rfl (by kernel_rfl) (fun K hK => ?_)
  go_simp
  refine (C10.out _ (bThen b0 k9)).mono ?_
  rintro e v10 ⟨rfl, hb10⟩
  have k10 : Below W0.heap.size W0 v10 := bThen k9 hb10
  have kk10 := bThen kk9 hb10
  have r10x := (cells_of_block ((Below.block k10 _ hzx).trans HX0.out)).1
  have r10x0 := r10x 0 _ rfl
  have r10x1 := r10x 1 _ rfl
  have r10x2 := r10x 2 _ rfl
  have r10x3 := r10x 3 _ rfl
  have r10x4 := r10x 4 _ rfl
  have r10x5 := r10x 5 _ rfl
  have r10x6 := r10x 6 _ rfl
  clear r10x
  have r10y := (cells_of_block ((Below.block k10 _ hzy).trans HY0.out)).1
  have r10y0 := r10y 0 _ rfl
  have r10y1 := r10y 1 _ rfl
  have r10y2 := r10y 2 _ rfl
  have r10y3 := r10y 3 _ rfl
  have r10y4 := r10y 4 _ rfl
  have r10y5 := r10y 5 _ rfl
  have r10y6 := r10y 6 _ rfl
  clear r10y
  go_simp
  refine hK.out _ _ ⟨⟨r10x0, r10x1, r10x2, r10x3, r10x4, r10x5, r10x6, r10y0, r10y1, r10y2, r10y3, r10y4, r10y5, r10y6⟩, hcv _ kk10⟩ (fun hHeld => ?_)
  clear hK K
  (try simp only [Act.put, List.setIfInBounds_toArray, List.set_cons_zero, List.set_cons_succ])
  clear r10x0 r10x1 r10x2 r10x3 r10x4 r10x5 r10x6 r10y0 r10y1 r10y2 r10y3 r10y4 r10y5 r10y6
  refine anyH_one 48 rfl (by kernel_rfl) (fun K hK => ?_)
  go_simp
  refine (C11.out _ (bThen b0 k10)).mono ?_
  rintro e v11 ⟨rfl, hb11⟩
  have k11 : Below W0.heap.size W0 v11 := bThen k10 hb11
  have kk11 := bThen kk10 hb11
  have r11x := (cells_of_block ((Below.block k11 _ hzx).trans HX0.out)).1
  have r11x0 := r11x 0 _ rfl
  have r11x1 := r11x 1 _ rfl
  have r11x2 := r11x 2 _ rfl
  have r11x3 := r11x 3 _ rfl
  have r11x4 := r11x 4 _ rfl
  have r11x5 := r11x 5 _ rfl
  have r11x6 := r11x 6 _ rfl
  clear r11x
  have r11y := (cells_of_block ((Below.block k11 _ hzy).trans HY0.out)).1
  have r11y0 := r11y 0 _ rfl
  have r11y1 := r11y 1 _ rfl
  have r11y2 := r11y 2 _ rfl
  have r11y3 := r11y 3 _ rfl
  have r11y4 := r11y 4 _ rfl
  have r11y5 := r11y 5 _ rfl
  have r11y6 := r11y 6 _ rfl
  clear r11y
  go_simp
  refine hK.out _ _ ⟨⟨r11x0, r11x1, r11x2, r11x3, r11x4, r11x5, r11x6, r11y0, r11y1, r11y2, r11y3, r11y4, r11y5, r11y6⟩, hcv _ kk11⟩ (fun hHeld => ?_)
  clear hK K
  (try simp only [Act.put, List.setIfInBounds_toArray, List.set_cons_zero, List.set_cons_succ])
  clear r11x0 r11x1 r11x2 r11x3 r11x4 r11x5 r11x6 r11y0 r11y1 r11y2 r11y3 r11y4 r11y5 r11y6
  refine anyH_take 49 (v := ?_) rfl (by kernel_rfl) (by kernel_rfl) (by kernel_rfl) (fun _ _ _ h => h) (by rfl) hHeld ?_ ?_
  rotate_left
  · (intro w hSw; (try dsimp only at hSw); go_split_ands; go_simp; try with_reducible rfl)
  (try simp only [Act.put, List.setIfInBounds_toArray, List.set_cons_zero, List.set_cons_succ])
  refine anyH_take 50 (v := ?_) rfl (by kernel_rfl) (by kernel_rfl) (by kernel_rfl) (fun _ _ _ h => h) (by rfl) hHeld ?_ ?_
  rotate_left
  · (intro w hSw; (try dsimp only at hSw); go_split_ands; go_simp; try with_reducible rfl)
  (try simp only [Act.put, List.setIfInBounds_toArray, List.set_cons_zero, List.set_cons_succ])
  refine anyH_take 51 (v := ?_) rfl (by kernel_rfl) (by kernel_rfl) (by kernel_rfl) (fun _ _ _ h => h) (by rfl) hHeld ?_ ?_
  rotate_left
  · (intro w hSw; (try dsimp only at hSw); go_split_ands; go_simp; try with_reducible rfl)
  (try simp only [Act.put, List.setIfInBounds_toArray, List.set_cons_zero, List.set_cons_succ])
  refine anyH_one 52 rfl (by kernel_rfl) (fun K hK => ?_)
  go_simp
  refine (works17_calls _).mono ?_
  rintro e v12 ⟨rfl, hb12⟩
  have k12 : Below W0.heap.size W0 v12 := bThen k11 hb12
  have kk12 := bThen kk11 hb12
  have r12x := (cells_of_block ((Below.block k12 _ hzx).trans HX0.out)).1
  have r12x0 := r12x 0 _ rfl
  have r12x1 := r12x 1 _ rfl
  have r12x2 := r12x 2 _ rfl
  have r12x3 := r12x 3 _ rfl
  have r12x4 := r12x 4 _ rfl
  have r12x5 := r12x 5 _ rfl
  have r12x6 := r12x 6 _ rfl
  clear r12x
  have r12y := (cells_of_block ((Below.block k12 _ hzy).trans HY0.out)).1
  have r12y0 := r12y 0 _ rfl
  have r12y1 := r12y 1 _ rfl
  have r12y2 := r12y 2 _ rfl
  have r12y3 := r12y 3 _ rfl
  have r12y4 := r12y 4 _ rfl
  have r12y5 := r12y 5 _ rfl
  have r12y6 := r12y 6 _ rfl
  clear r12y
  go_simp
  refine hK.out _ _ ⟨⟨r12x0, r12x1, r12x2, r12x3, r12x4, r12x5, r12x6, r12y0, r12y1, r12y2, r12y3, r12y4, r12y5, r12y6⟩, hcv _ kk12⟩ (fun hHeld => ?_)
  clear hK K
  (try simp only [Act.put, List.setIfInBounds_toArray, List.set_cons_zero, List.set_cons_succ])
  clear r12x0 r12x1 r12x2 r12x3 r12x4 r12x5 r12x6 r12y0 r12y1 r12y2 r12y3 r12y4 r12y5 r12y6
  refine anyH_take 53 (v := ?_) rfl (by kernel_rfl) (by kernel_rfl) (by kernel_rfl) (fun _ _ _ h => h) (by rfl) hHeld ?_ ?_
  rotate_left
  · (intro w hSw; (try dsimp only at hSw); go_split_ands; go_simp; try with_reducible rfl)
  (try simp only [Act.put, List.setIfInBounds_toArray, List.set_cons_zero, List.set_cons_succ])
  refine anyH_take 54 (v := ?_) rfl (by kernel_rfl) (by kernel_rfl) (by kernel_rfl) (fun _ _ _ h => h) (by rfl) hHeld ?_ ?_
  rotate_left
  · (intro w hSw; (try dsimp only at hSw); go_split_ands; go_simp; try with_reducible rfl)
  (try simp only [Act.put, List.setIfInBounds_toArray, List.set_cons_zero, List.set_cons_succ])
  refine wpAnyH_done (by kernel_rfl) ?_ _
  go_wp2
  go_ret
  exact ⟨rfl, bThen b0 k12⟩

theorem recBytes_walk (W : World) (x : RecS) (cs : Array Value) (hx : Kd.recK.K W Any x cs.toList) (_ox : okRec x) (y : RecS) (ds : Array Value) (hy : Kd.recK.K W Any y ds.toList) (_oy : okRec y) :
    Calls Try.prog 3 #[.agg cs, .agg ds] W fun e w' => e = .returned (.bool true) ∧ Below W.heap.size W w' := by
  obtain ⟨A, n, c, rfl, h1⟩ := rec_open hx
  obtain ⟨B, m, d, rfl, h2⟩ := rec_open hy
  exact recBytesLaw_calls x y A B n c m d W h1 h2

end Go.Proofs.Ytahhhnbpohcbfaa
