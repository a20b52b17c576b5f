import Derived.Test.YtlckkcefkiffjaaRecS
namespace Go.Proofs.Ytlckkcefkiffjaa
open Go.RowKit

theorem numL_1 {n : Int} (h0 : 0 ≤ n) (h : n < 248) : (numL (clampN n)).length = 1 := by
  unfold numL
  rw [if_pos (by unfold clampN; omega)]; rfl
theorem optL_in {t : Bool} {n lo hi : Int} (h : inB t n lo hi = true) (h0 : 0 ≤ lo) (h1 : hi < 248) : (optL t n).length = if t then 1 else 0 := by
  cases t
  · rfl
  · simp only [inB, if_true, decide_eq_true_eq] at h
    exact numL_1 (by omega) (by omega)
theorem hasF_16 {k : Int} (h : 1 ≤ k ∧ k ≤ 4) (h1 : k ≠ 1) : hasF k 16 = false := by
  have : k = 2 ∨ k = 3 ∨ k = 4 := by omega
  rcases this with rfl | rfl | rfl <;> decide +kernel
theorem recL_same {x y : RecS} (hx : recOk x = true) (hy : recOk y = true) (hk : x.kind = y.kind) (hj : x.job = y.job) (h1 : x.kind ≠ 1) : (recL x).length = (recL y).length := by
  have key : ∀ z : RecS, recOk z = true → z.kind = x.kind → z.job = x.job → (recL z).length = (numL (clampN x.kind)).length + (numL (clampN x.job)).length + (if hasF x.kind 1 then 1 else 0) + (if hasF x.kind 2 then 1 else 0) + (if hasF x.kind 4 then 1 else 0) + (if hasF x.kind 8 then 1 else 0) := by
    intro z hz ek ej
    have hz' := hz
    simp only [recOk, Bool.and_eq_true, decide_eq_true_eq, fieldsOk] at hz'
    obtain ⟨⟨⟨⟨⟨⟨⟨h2, h3⟩, h4⟩, h5⟩, h6⟩, h7⟩, h8⟩, h9⟩ := hz'
    have h10 : hasF z.kind 16 = false := hasF_16 h2 (by rw [ek]; exact h1)
    rw [h10] at h8
    have h11 : z.needs = [] := by
      simp [inB] at h8
      exact h8
    unfold recL
    rw [if_pos hz, h11]
    unfold recHead
    rw [h11, h10]
    have e16 : (optL false ((([] : List ByteArray).length : Nat) : Int)).length = 0 := rfl
    rw [ek] at h4 h5 h6 h7
    have e4 := optL_in h4 (by decide) (by decide)
    have e5 := optL_in h5 (by decide) (by decide)
    have e6 := optL_in h6 (by decide) (by decide)
    have e7 := optL_in h7 (by decide) (by decide)
    rw [ek, ej, List.flatMap_nil, List.append_nil]
    simp only [List.length_append, e4, e5, e6, e7]
    rw [e16, Nat.add_zero]
  rw [key x hx rfl rfl, key y hy hk.symm hj.symm]
theorem putL_same {a b : List UInt8} (h : a.length = b.length) : (putL a).length = (putL b).length := by
  unfold putL
  rw [h]
  split
  · rfl
  · simp [sealL, textL, four, h]
theorem sizeR_same {x y : RecS} (hx : recOk x = true) (hy : recOk y = true) (hk : x.kind = y.kind) (hj : x.job = y.job) (h1 : x.kind ≠ 1) : sizeR x = sizeR y := by
  unfold sizeR
  rw [hx, hy]
  simp only [if_true]
  rw [putL_same (recL_same hx hy hk hj h1)]

set_option maxHeartbeats 3200000 in
set_option maxRecDepth 100000 in
theorem recSizes_calls (x y : RecS) (A B : Option Addr) (n c m d : Nat) (w : World) (hn : Kd.str.slice.K w Any x.needs [.slice A n c]) (hm : Kd.str.slice.K w Any y.needs [.slice B m d]) :
    Calls Try.prog 13 #[.agg #[.int .i64 x.kind, .int .i64 x.job, .int .i64 x.task, .int .i64 x.worker, .int .i64 x.sched, .int .i64 x.epoch, .slice A n c], .agg #[.int .i64 y.kind, .int .i64 y.job, .int .i64 y.task, .int .i64 y.worker, .int .i64 y.sched, .int .i64 y.epoch, .slice B m d]] w
      fun e w' => e = .returned (.bool true) ∧ Below w.heap.size w w' := by
  obtain ⟨z, hz⟩ : ∃ z : RecS, z = ⟨y.kind, x.job, y.task, y.worker, y.sched, y.epoch, y.needs⟩ := ⟨_, rfl⟩
  have HZ := hid hz
  have CX : ∀ w1, Below w.heap.size w w1 → Calls Try.prog 67 #[.agg #[.int .i64 x.kind, .int .i64 x.job, .int .i64 x.task, .int .i64 x.worker, .int .i64 x.sched, .int .i64 x.epoch, .slice A n c]] w1 fun e w' => e = .returned (.bool (recOk x)) ∧ Below w1.heap.size w1 w' := fun w1 h => recCheck_calls x A n c w1 (Kd.below hn h)
  have CZ : ∀ w1, Below w.heap.size w w1 → Calls Try.prog 67 #[.agg #[.int .i64 y.kind, .int .i64 x.job, .int .i64 y.task, .int .i64 y.worker, .int .i64 y.sched, .int .i64 y.epoch, .slice B m d]] w1 fun e w' => e = .returned (.bool (recOk z)) ∧ Below w1.heap.size w1 w' := fun w1 h => by
    have := recCheck_calls z B m d w1 (by rw [hz]; exact Kd.below hm h)
    rw [hz] at this ⊢; exact this
  have SX : ∀ w1, Below w.heap.size w w1 → Calls Try.prog 69 #[.agg #[.int .i64 x.kind, .int .i64 x.job, .int .i64 x.task, .int .i64 x.worker, .int .i64 x.sched, .int .i64 x.epoch, .slice A n c]] w1 fun e w' => e = .returned (.int .i64 (sizeR x)) ∧ Below w1.heap.size w1 w' := fun w1 h => recSize_calls x A n c w1 (Kd.below hn h)
  have SZ : ∀ w1, Below w.heap.size w w1 → Calls Try.prog 69 #[.agg #[.int .i64 y.kind, .int .i64 x.job, .int .i64 y.task, .int .i64 y.worker, .int .i64 y.sched, .int .i64 y.epoch, .slice B m d]] w1 fun e w' => e = .returned (.int .i64 (sizeR z)) ∧ Below w1.heap.size w1 w' := fun w1 h => by
    have := recSize_calls z B m d w1 (by rw [hz]; exact Kd.below hm h)
    rw [hz] at this ⊢; exact this
  have CX := hid CX
  have CZ := hid CZ
  have SX := hid SX
  have SZ := hid SZ
  have hzk : z.kind = y.kind := by rw [hz]
  have hzj : z.job = x.job := by rw [hz]
  have HZK := hid hzk
  have HZJ := hid hzj
  clear hn hm hz hzk hzj
  cases h1 : recOk x
  · go_enter Try.func13, Try.ntmps13
    go_wp2_with fail
    obtain ⟨W0, hW0⟩ : ∃ W0, W0 = (w.alloc (Obj.cells #[.int .i64 x.kind, .int .i64 x.job, .int .i64 x.task, .int .i64 x.worker, .int .i64 x.sched, .int .i64 x.epoch, .slice A n c] 103)).alloc (Obj.cells #[.int .i64 y.kind, .int .i64 x.job, .int .i64 y.task, .int .i64 y.worker, .int .i64 y.sched, .int .i64 y.epoch, .slice B m d] 103) := ⟨_, rfl⟩
    have b0 : Below w.heap.size w W0 := by rw [hW0]; exact bAlloc (bAlloc (Below.refl _ _) _) _
    have HX0 : Hid (W0.heap[w.heap.size]? = some (.cells #[.int .i64 x.kind, .int .i64 x.job, .int .i64 x.task, .int .i64 x.worker, .int .i64 x.sched, .int .i64 x.epoch, .slice A n c] 103 (0, 0))) := by rw [hW0]; exact heap_old (by simp) (heap_at rfl)
    have HY0 : Hid (W0.heap[w.heap.size + 1]? = some (.cells #[.int .i64 y.kind, .int .i64 x.job, .int .i64 y.task, .int .i64 y.worker, .int .i64 y.sched, .int .i64 y.epoch, .slice B m d] 103 (0, 0))) := by rw [hW0]; exact heap_at (by simp)
    have hzx : w.heap.size < W0.heap.size := by rw [hW0]; simp; omega
    have hzy : w.heap.size + 1 < W0.heap.size := by rw [hW0]; simp
    rw [← hW0]
    clear hW0
    refine (CX.out _ b0).mono ?_
    rintro e w1 ⟨rfl, hb1⟩
    rw [h1]
    go_wp2_with fail
    refine (works17_calls _).mono ?_
    rintro e w9 ⟨rfl, hb9⟩
    go_wp2
    go_ret
    exact ⟨rfl, bThen (bThen b0 hb1) hb9⟩
  cases h2 : recOk z
  · go_enter Try.func13, Try.ntmps13
    go_wp2_with fail
    obtain ⟨W0, hW0⟩ : ∃ W0, W0 = (w.alloc (Obj.cells #[.int .i64 x.kind, .int .i64 x.job, .int .i64 x.task, .int .i64 x.worker, .int .i64 x.sched, .int .i64 x.epoch, .slice A n c] 103)).alloc (Obj.cells #[.int .i64 y.kind, .int .i64 x.job, .int .i64 y.task, .int .i64 y.worker, .int .i64 y.sched, .int .i64 y.epoch, .slice B m d] 103) := ⟨_, rfl⟩
    have b0 : Below w.heap.size w W0 := by rw [hW0]; exact bAlloc (bAlloc (Below.refl _ _) _) _
    have HX0 : Hid (W0.heap[w.heap.size]? = some (.cells #[.int .i64 x.kind, .int .i64 x.job, .int .i64 x.task, .int .i64 x.worker, .int .i64 x.sched, .int .i64 x.epoch, .slice A n c] 103 (0, 0))) := by rw [hW0]; exact heap_old (by simp) (heap_at rfl)
    have HY0 : Hid (W0.heap[w.heap.size + 1]? = some (.cells #[.int .i64 y.kind, .int .i64 x.job, .int .i64 y.task, .int .i64 y.worker, .int .i64 y.sched, .int .i64 y.epoch, .slice B m d] 103 (0, 0))) := by rw [hW0]; exact heap_at (by simp)
    have hzx : w.heap.size < W0.heap.size := by rw [hW0]; simp; omega
    have hzy : w.heap.size + 1 < W0.heap.size := by rw [hW0]; simp
    rw [← hW0]
    clear hW0
    refine (CX.out _ b0).mono ?_
    rintro e w1 ⟨rfl, hb1⟩
    rw [h1]
    have qx := (cells_of_block ((Below.block hb1 _ hzx).trans HX0.out)).1
    have qx0 := qx 0 _ rfl
    have qx1 := qx 1 _ rfl
    have qx2 := qx 2 _ rfl
    have qx3 := qx 3 _ rfl
    have qx4 := qx 4 _ rfl
    have qx5 := qx 5 _ rfl
    have qx6 := qx 6 _ rfl
    clear qx
    have qy := (cells_of_block ((Below.block hb1 _ hzy).trans HY0.out)).1
    have qy0 := qy 0 _ rfl
    have qy1 := qy 1 _ rfl
    have qy2 := qy 2 _ rfl
    have qy3 := qy 3 _ rfl
    have qy4 := qy 4 _ rfl
    have qy5 := qy 5 _ rfl
    have qy6 := qy 6 _ rfl
    clear qy
    go_wp2_with fail
    refine (CZ.out _ (bThen b0 hb1)).mono ?_
    rintro e w2 ⟨rfl, hb2⟩
    rw [h2]
    have b2 := bThen hb1 hb2
    clear qx0 qx1 qx2 qx3 qx4 qx5 qx6 qy0 qy1 qy2 qy3 qy4 qy5 qy6
    go_wp2_with fail
    refine (works17_calls _).mono ?_
    rintro e w9 ⟨rfl, hb9⟩
    go_wp2
    go_ret
    exact ⟨rfl, bThen (bThen b0 b2) hb9⟩
  by_cases hk : x.kind = y.kind
  case neg =>
    have hk1 : (x.kind == y.kind) = false := by rw [beq_eq_false_iff_ne]; exact hk
    have hk2 : (x.kind != y.kind) = true := by rw [bne_iff_ne]; exact hk
    clear hk
    go_enter Try.func13, Try.ntmps13
    go_wp2_with fail
    obtain ⟨W0, hW0⟩ : ∃ W0, W0 = (w.alloc (Obj.cells #[.int .i64 x.kind, .int .i64 x.job, .int .i64 x.task, .int .i64 x.worker, .int .i64 x.sched, .int .i64 x.epoch, .slice A n c] 103)).alloc (Obj.cells #[.int .i64 y.kind, .int .i64 x.job, .int .i64 y.task, .int .i64 y.worker, .int .i64 y.sched, .int .i64 y.epoch, .slice B m d] 103) := ⟨_, rfl⟩
    have b0 : Below w.heap.size w W0 := by rw [hW0]; exact bAlloc (bAlloc (Below.refl _ _) _) _
    have HX0 : Hid (W0.heap[w.heap.size]? = some (.cells #[.int .i64 x.kind, .int .i64 x.job, .int .i64 x.task, .int .i64 x.worker, .int .i64 x.sched, .int .i64 x.epoch, .slice A n c] 103 (0, 0))) := by rw [hW0]; exact heap_old (by simp) (heap_at rfl)
    have HY0 : Hid (W0.heap[w.heap.size + 1]? = some (.cells #[.int .i64 y.kind, .int .i64 x.job, .int .i64 y.task, .int .i64 y.worker, .int .i64 y.sched, .int .i64 y.epoch, .slice B m d] 103 (0, 0))) := by rw [hW0]; exact heap_at (by simp)
    have hzx : w.heap.size < W0.heap.size := by rw [hW0]; simp; omega
    have hzy : w.heap.size + 1 < W0.heap.size := by rw [hW0]; simp
    rw [← hW0]
    clear hW0
    refine (CX.out _ b0).mono ?_
    rintro e w1 ⟨rfl, hb1⟩
    rw [h1]
    have qx := (cells_of_block ((Below.block hb1 _ hzx).trans HX0.out)).1
    have qx0 := qx 0 _ rfl
    have qx1 := qx 1 _ rfl
    have qx2 := qx 2 _ rfl
    have qx3 := qx 3 _ rfl
    have qx4 := qx 4 _ rfl
    have qx5 := qx 5 _ rfl
    have qx6 := qx 6 _ rfl
    clear qx
    have qy := (cells_of_block ((Below.block hb1 _ hzy).trans HY0.out)).1
    have qy0 := qy 0 _ rfl
    have qy1 := qy 1 _ rfl
    have qy2 := qy 2 _ rfl
    have qy3 := qy 3 _ rfl
    have qy4 := qy 4 _ rfl
    have qy5 := qy 5 _ rfl
    have qy6 := qy 6 _ rfl
    clear qy
    go_wp2_with fail
    refine (CZ.out _ (bThen b0 hb1)).mono ?_
    rintro e w2 ⟨rfl, hb2⟩
    rw [h2]
    have b2 := bThen hb1 hb2
    clear qx0 qx1 qx2 qx3 qx4 qx5 qx6 qy0 qy1 qy2 qy3 qy4 qy5 qy6
    have qx := (cells_of_block ((Below.block b2 _ hzx).trans HX0.out)).1
    have qx0 := qx 0 _ rfl
    have qx1 := qx 1 _ rfl
    have qx2 := qx 2 _ rfl
    have qx3 := qx 3 _ rfl
    have qx4 := qx 4 _ rfl
    have qx5 := qx 5 _ rfl
    have qx6 := qx 6 _ rfl
    clear qx
    have qy := (cells_of_block ((Below.block b2 _ hzy).trans HY0.out)).1
    have qy0 := qy 0 _ rfl
    have qy1 := qy 1 _ rfl
    have qy2 := qy 2 _ rfl
    have qy3 := qy 3 _ rfl
    have qy4 := qy 4 _ rfl
    have qy5 := qy 5 _ rfl
    have qy6 := qy 6 _ rfl
    clear qy
    go_wp2_with fail
    refine (works17_calls _).mono ?_
    rintro e w9 ⟨rfl, hb9⟩
    go_wp2
    go_ret
    exact ⟨rfl, bThen (bThen b0 b2) hb9⟩
  have hk1 : (x.kind == y.kind) = true := by rw [beq_iff_eq]; exact hk
  have hk2 : (x.kind != y.kind) = false := by rw [bne_eq_false_iff_eq]; exact hk
  by_cases hj : x.kind = 1
  case pos =>
    have hj1 : (x.kind == 1) = true := by rw [beq_iff_eq]; exact hj
    clear hk hj
    go_enter Try.func13, Try.ntmps13
    go_wp2_with fail
    obtain ⟨W0, hW0⟩ : ∃ W0, W0 = (w.alloc (Obj.cells #[.int .i64 x.kind, .int .i64 x.job, .int .i64 x.task, .int .i64 x.worker, .int .i64 x.sched, .int .i64 x.epoch, .slice A n c] 103)).alloc (Obj.cells #[.int .i64 y.kind, .int .i64 x.job, .int .i64 y.task, .int .i64 y.worker, .int .i64 y.sched, .int .i64 y.epoch, .slice B m d] 103) := ⟨_, rfl⟩
    have b0 : Below w.heap.size w W0 := by rw [hW0]; exact bAlloc (bAlloc (Below.refl _ _) _) _
    have HX0 : Hid (W0.heap[w.heap.size]? = some (.cells #[.int .i64 x.kind, .int .i64 x.job, .int .i64 x.task, .int .i64 x.worker, .int .i64 x.sched, .int .i64 x.epoch, .slice A n c] 103 (0, 0))) := by rw [hW0]; exact heap_old (by simp) (heap_at rfl)
    have HY0 : Hid (W0.heap[w.heap.size + 1]? = some (.cells #[.int .i64 y.kind, .int .i64 x.job, .int .i64 y.task, .int .i64 y.worker, .int .i64 y.sched, .int .i64 y.epoch, .slice B m d] 103 (0, 0))) := by rw [hW0]; exact heap_at (by simp)
    have hzx : w.heap.size < W0.heap.size := by rw [hW0]; simp; omega
    have hzy : w.heap.size + 1 < W0.heap.size := by rw [hW0]; simp
    rw [← hW0]
    clear hW0
    refine (CX.out _ b0).mono ?_
    rintro e w1 ⟨rfl, hb1⟩
    rw [h1]
    have qx := (cells_of_block ((Below.block hb1 _ hzx).trans HX0.out)).1
    have qx0 := qx 0 _ rfl
    have qx1 := qx 1 _ rfl
    have qx2 := qx 2 _ rfl
    have qx3 := qx 3 _ rfl
    have qx4 := qx 4 _ rfl
    have qx5 := qx 5 _ rfl
    have qx6 := qx 6 _ rfl
    clear qx
    have qy := (cells_of_block ((Below.block hb1 _ hzy).trans HY0.out)).1
    have qy0 := qy 0 _ rfl
    have qy1 := qy 1 _ rfl
    have qy2 := qy 2 _ rfl
    have qy3 := qy 3 _ rfl
    have qy4 := qy 4 _ rfl
    have qy5 := qy 5 _ rfl
    have qy6 := qy 6 _ rfl
    clear qy
    go_wp2_with fail
    refine (CZ.out _ (bThen b0 hb1)).mono ?_
    rintro e w2 ⟨rfl, hb2⟩
    rw [h2]
    have b2 := bThen hb1 hb2
    clear qx0 qx1 qx2 qx3 qx4 qx5 qx6 qy0 qy1 qy2 qy3 qy4 qy5 qy6
    have qx := (cells_of_block ((Below.block b2 _ hzx).trans HX0.out)).1
    have qx0 := qx 0 _ rfl
    have qx1 := qx 1 _ rfl
    have qx2 := qx 2 _ rfl
    have qx3 := qx 3 _ rfl
    have qx4 := qx 4 _ rfl
    have qx5 := qx 5 _ rfl
    have qx6 := qx 6 _ rfl
    clear qx
    have qy := (cells_of_block ((Below.block b2 _ hzy).trans HY0.out)).1
    have qy0 := qy 0 _ rfl
    have qy1 := qy 1 _ rfl
    have qy2 := qy 2 _ rfl
    have qy3 := qy 3 _ rfl
    have qy4 := qy 4 _ rfl
    have qy5 := qy 5 _ rfl
    have qy6 := qy 6 _ rfl
    clear qy
    go_wp2_with fail
    refine (works17_calls _).mono ?_
    rintro e w9 ⟨rfl, hb9⟩
    go_wp2
    go_ret
    exact ⟨rfl, bThen (bThen b0 b2) hb9⟩
  have hj1 : (x.kind == 1) = false := by rw [beq_eq_false_iff_ne]; exact hj
  have HS := hid (sizeR_same h1 h2 (by rw [HZK.out]; exact hk) HZJ.out.symm hj)
  clear hk hj
  obtain ⟨sz, hsz⟩ : ∃ sz, sz = sizeR x := ⟨_, rfl⟩
  rw [← hsz] at SX HS
  rw [← HS.out] at SZ
  clear hsz
  go_enter Try.func13, Try.ntmps13
  go_wp2_with fail
  obtain ⟨W0, hW0⟩ : ∃ W0, W0 = (w.alloc (Obj.cells #[.int .i64 x.kind, .int .i64 x.job, .int .i64 x.task, .int .i64 x.worker, .int .i64 x.sched, .int .i64 x.epoch, .slice A n c] 103)).alloc (Obj.cells #[.int .i64 y.kind, .int .i64 x.job, .int .i64 y.task, .int .i64 y.worker, .int .i64 y.sched, .int .i64 y.epoch, .slice B m d] 103) := ⟨_, rfl⟩
  have b0 : Below w.heap.size w W0 := by rw [hW0]; exact bAlloc (bAlloc (Below.refl _ _) _) _
  have HX0 : Hid (W0.heap[w.heap.size]? = some (.cells #[.int .i64 x.kind, .int .i64 x.job, .int .i64 x.task, .int .i64 x.worker, .int .i64 x.sched, .int .i64 x.epoch, .slice A n c] 103 (0, 0))) := by rw [hW0]; exact heap_old (by simp) (heap_at rfl)
  have HY0 : Hid (W0.heap[w.heap.size + 1]? = some (.cells #[.int .i64 y.kind, .int .i64 x.job, .int .i64 y.task, .int .i64 y.worker, .int .i64 y.sched, .int .i64 y.epoch, .slice B m d] 103 (0, 0))) := by rw [hW0]; exact heap_at (by simp)
  have hzx : w.heap.size < W0.heap.size := by rw [hW0]; simp; omega
  have hzy : w.heap.size + 1 < W0.heap.size := by rw [hW0]; simp
  rw [← hW0]
  clear hW0
  refine (CX.out _ b0).mono ?_
  rintro e w1 ⟨rfl, hb1⟩
  rw [h1]
  have qx := (cells_of_block ((Below.block hb1 _ hzx).trans HX0.out)).1
  have qx0 := qx 0 _ rfl
  have qx1 := qx 1 _ rfl
  have qx2 := qx 2 _ rfl
  have qx3 := qx 3 _ rfl
  have qx4 := qx 4 _ rfl
  have qx5 := qx 5 _ rfl
  have qx6 := qx 6 _ rfl
  clear qx
  have qy := (cells_of_block ((Below.block hb1 _ hzy).trans HY0.out)).1
  have qy0 := qy 0 _ rfl
  have qy1 := qy 1 _ rfl
  have qy2 := qy 2 _ rfl
  have qy3 := qy 3 _ rfl
  have qy4 := qy 4 _ rfl
  have qy5 := qy 5 _ rfl
  have qy6 := qy 6 _ rfl
  clear qy
  go_wp2_with fail
  refine (CZ.out _ (bThen b0 hb1)).mono ?_
  rintro e w2 ⟨rfl, hb2⟩
  rw [h2]
  have b2 := bThen hb1 hb2
  clear qx0 qx1 qx2 qx3 qx4 qx5 qx6 qy0 qy1 qy2 qy3 qy4 qy5 qy6
  have qx := (cells_of_block ((Below.block b2 _ hzx).trans HX0.out)).1
  have qx0 := qx 0 _ rfl
  have qx1 := qx 1 _ rfl
  have qx2 := qx 2 _ rfl
  have qx3 := qx 3 _ rfl
  have qx4 := qx 4 _ rfl
  have qx5 := qx 5 _ rfl
  have qx6 := qx 6 _ rfl
  clear qx
  have qy := (cells_of_block ((Below.block b2 _ hzy).trans HY0.out)).1
  have qy0 := qy 0 _ rfl
  have qy1 := qy 1 _ rfl
  have qy2 := qy 2 _ rfl
  have qy3 := qy 3 _ rfl
  have qy4 := qy 4 _ rfl
  have qy5 := qy 5 _ rfl
  have qy6 := qy 6 _ rfl
  clear qy
  go_wp2_with fail
  go_region_held3 (fun w' => w'.cell? ⟨w.heap.size, 0, none⟩ = some (.int .i64 x.kind) ∧ w'.cell? ⟨w.heap.size, 1, none⟩ = some (.int .i64 x.job) ∧ w'.cell? ⟨w.heap.size, 2, none⟩ = some (.int .i64 x.task) ∧ w'.cell? ⟨w.heap.size, 3, none⟩ = some (.int .i64 x.worker) ∧ w'.cell? ⟨w.heap.size, 4, none⟩ = some (.int .i64 x.sched) ∧ w'.cell? ⟨w.heap.size, 5, none⟩ = some (.int .i64 x.epoch) ∧ w'.cell? ⟨w.heap.size, 6, none⟩ = some (.slice A n c) ∧ w'.cell? ⟨w.heap.size + 1, 0, none⟩ = some (.int .i64 y.kind) ∧ w'.cell? ⟨w.heap.size + 1, 1, none⟩ = some (.int .i64 x.job) ∧ w'.cell? ⟨w.heap.size + 1, 2, none⟩ = some (.int .i64 y.task) ∧ w'.cell? ⟨w.heap.size + 1, 3, none⟩ = some (.int .i64 y.worker) ∧ w'.cell? ⟨w.heap.size + 1, 4, none⟩ = some (.int .i64 y.sched) ∧ w'.cell? ⟨w.heap.size + 1, 5, none⟩ = some (.int .i64 y.epoch) ∧ w'.cell? ⟨w.heap.size + 1, 6, none⟩ = some (.slice B m d)) (first | exact ⟨qx0, qx1, qx2, qx3, qx4, qx5, qx6, qy0, qy1, qy2, qy3, qy4, qy5, qy6⟩ | exact ⟨rx0, rx1, rx2, rx3, rx4, rx5, rx6, ry0, ry1, ry2, ry3, ry4, ry5, ry6⟩ | exact ⟨sx0, sx1, sx2, sx3, sx4, sx5, sx6, sy0, sy1, sy2, sy3, sy4, sy5, sy6⟩ | exact ⟨tx0, tx1, tx2, tx3, tx4, tx5, tx6, ty0, ty1, ty2, ty3, ty4, ty5, ty6⟩ | go_keep) (first
    | ((with_reducible refine (SX.out _ (bThen b0 (b2.drew))).mono ?_); rintro e w3 ⟨rfl, hb3⟩; have b3 : Below W0.heap.size W0 w3 := bThen b2.drew hb3; have rx := (cells_of_block ((Below.block b3 _ hzx).trans HX0.out)).1; have rx0 := rx 0 _ rfl; have rx1 := rx 1 _ rfl; have rx2 := rx 2 _ rfl; have rx3 := rx 3 _ rfl; have rx4 := rx 4 _ rfl; have rx5 := rx 5 _ rfl; have rx6 := rx 6 _ rfl; clear rx; have ry := (cells_of_block ((Below.block b3 _ hzy).trans HY0.out)).1; have ry0 := ry 0 _ rfl; have ry1 := ry 1 _ rfl; have ry2 := ry 2 _ rfl; have ry3 := ry 3 _ rfl; have ry4 := ry 4 _ rfl; have ry5 := ry 5 _ rfl; have ry6 := ry 6 _ rfl; clear ry)
    | ((with_reducible refine (SZ.out _ (bThen b0 b3)).mono ?_); rintro e w4 ⟨rfl, hb4⟩; have b4 := bThen b3 hb4; have sx := (cells_of_block ((Below.block b4 _ hzx).trans HX0.out)).1; have sx0 := sx 0 _ rfl; have sx1 := sx 1 _ rfl; have sx2 := sx 2 _ rfl; have sx3 := sx 3 _ rfl; have sx4 := sx 4 _ rfl; have sx5 := sx 5 _ rfl; have sx6 := sx 6 _ rfl; clear sx; have sy := (cells_of_block ((Below.block b4 _ hzy).trans HY0.out)).1; have sy0 := sy 0 _ rfl; have sy1 := sy 1 _ rfl; have sy2 := sy 2 _ rfl; have sy3 := sy 3 _ rfl; have sy4 := sy 4 _ rfl; have sy5 := sy 5 _ rfl; have sy6 := sy 6 _ rfl; clear sy)
    | ((with_reducible refine (works17_calls _).mono ?_); rintro e w5 ⟨rfl, hb5⟩; have b5 := bThen b4 hb5; have tx := (cells_of_block ((Below.block b5 _ hzx).trans HX0.out)).1; have tx0 := tx 0 _ rfl; have tx1 := tx 1 _ rfl; have tx2 := tx 2 _ rfl; have tx3 := tx 3 _ rfl; have tx4 := tx 4 _ rfl; have tx5 := tx 5 _ rfl; have tx6 := tx 6 _ rfl; clear tx; have ty := (cells_of_block ((Below.block b5 _ hzy).trans HY0.out)).1; have ty0 := ty 0 _ rfl; have ty1 := ty 1 _ rfl; have ty2 := ty 2 _ rfl; have ty3 := ty 3 _ rfl; have ty4 := ty 4 _ rfl; have ty5 := ty 5 _ rfl; have ty6 := ty 6 _ rfl; clear ty)
    | fail)
  all_goals
    go_wp2
    go_ret
    exact ⟨rfl, bThen b0 b5⟩

theorem recSizes_walk (W : World) (x : RecS) (cs : Array Value) (hx : Kd.recK.K W Any x cs.toList) (_ox : okRec x) (y : RecS) (ds : Array Value) (hy : Kd.recK.K W Any y ds.toList) (_oy : okRec y) :
    Calls Try.prog 13 #[.agg cs, .agg ds] W fun e w' => e = .returned (.bool true) ∧ Below W.heap.size W w' := by
  obtain ⟨A, n, c, rfl, h1⟩ := rec_open hx
  obtain ⟨B, m, d, rfl, h2⟩ := rec_open hy
  exact recSizes_calls x y A B n c m d W h1 h2

end Go.Proofs.Ytlckkcefkiffjaa
