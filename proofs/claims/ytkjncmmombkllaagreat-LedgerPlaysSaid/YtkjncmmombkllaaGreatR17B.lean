import Derived.Test.YtkjncmmombkllaaGreatR17
namespace Go.Proofs.YtkjncmmombkllaaGreat
open Go.RowKit Go.Lib

/-! ### ref17.Bytes -/
def valI (x : RecS) : Nat → Int
  | 0 => x.task
  | 1 => x.worker
  | 2 => x.sched
  | 3 => x.epoch
  | _ => x.needs.length
def recUp (x : RecS) : Nat → List UInt8
  | 0 => numL (clampN x.kind) ++ numL (clampN x.job)
  | k + 1 => recUp x k ++ optL (hasF x.kind (2 ^ k)) (valI x k)
theorem recUp_5 (x : RecS) : recUp x 5 = recHead x := rfl
theorem recUp_len (x : RecS) : ∀ k, (recUp x k).length ≤ 16 + 8 * k
  | 0 => by
    have h1 := numL_len_le (clampN_le x.kind)
    have h2 := numL_len_le (clampN_le x.job)
    simp only [recUp, List.length_append]; omega
  | k + 1 => by
    have h1 := recUp_len x k
    have h2 := optL_len (hasF x.kind (2 ^ k)) (valI x k)
    simp only [recUp, List.length_append]; omega

set_option maxHeartbeats 6400000 in
set_option maxRecDepth 100000 in
theorem rbytes17_calls (x : RecS) (A : Option Addr) (n c : Nat) (w : World) (hn : Kd.str.slice.K w Any x.needs [.slice A n c]) :
    Calls Tryz.prog 64 #[.agg #[.int .i64 x.kind, .int .i64 x.job, .int .i64 x.task, .int .i64 x.worker, .int .i64 x.sched, .int .i64 x.epoch, .slice A n c]] w fun e w' => e = .returned (.string (mkB (recL x))) ∧ Below w.heap.size w w' := by
  have HK := hid hn
  cases hok : recOk x
  · have HV := hid (show recL x = [] by unfold recL; rw [hok]; rfl)
    clear hn
    go_enter Tryz.func64, Tryz.ntmps64
    go_wp2_with fail
    refine (rcheck17_calls x A n c _ (Kd.below HK.out (bAlloc (Below.refl _ _) _))).mono ?_
    rintro e w1 ⟨rfl, hb1⟩
    rw [hok]
    go_wp2
    go_ret
    exact ⟨ret_str (by rw [HV.out]; rfl), bThen (bAlloc (Below.refl _ _) _) hb1⟩
  obtain ⟨hn16, hn200⟩ := recOk_needs hok
  have HL := hid (show recL x = recHead x ++ x.needs.flatMap (fun s => textL s.data.toList) by unfold recL; rw [if_pos hok])
  obtain ⟨A', c', he, hc, hm, hr⟩ := hn
  have hnl : x.needs.length = n := by injection he with h; injection h with _ h _; exact h.symm
  have hr2 : Kd.str.Row w Any A x.needs := by cases he; exact hr
  rw [hnl] at hn16
  have HR := hid hr2
  have HN := hid hnl
  have HN2 := hid hn200
  clear he hc hm hr hr2 hnl hn200
  go_enter Tryz.func64, Tryz.ntmps64
  go_wp2_with fail
  refine (rcheck17_calls x A n c _ (Kd.below HK.out (bAlloc (Below.refl _ _) _))).mono ?_
  rintro e w1 ⟨rfl, hb1⟩
  rw [hok]
  have b1 := bThen (bAlloc (Below.refl _ _) _) hb1
  have hx1 : w1.heap[w.heap.size]? = some (.cells #[.int .i64 x.kind, .int .i64 x.job, .int .i64 x.task, .int .i64 x.worker, .int .i64 x.sched, .int .i64 x.epoch, .slice A n c] 46 (0, 0)) := (hb1.block _ (by simp)).trans (heap_at rfl)
  have hs1 : w.heap.size < w1.heap.size := (Array.getElem?_eq_some_iff.1 hx1).1
  obtain ⟨q1, _, _⟩ := cells_of_block hx1
  have x0 := q1 0 _ rfl
  have x1 := q1 1 _ rfl
  have x2 := q1 2 _ rfl
  have x3 := q1 3 _ rfl
  have x4 := q1 4 _ rfl
  have x5 := q1 5 _ rfl
  have x6 := q1 6 _ rfl
  have HX1 := hid hx1
  clear q1 hx1 hb1
  go_wp2_with fail
  obtain ⟨w2, hw2⟩ : ∃ w2, w2 = w1.alloc (Obj.cells #[.int .i64 x.task, .int .i64 x.worker, .int .i64 x.sched, .int .i64 x.epoch, .int .i64 n] 3) := ⟨_, rfl⟩
  have B2 : Hid (Below w.heap.size w w2) := by rw [hw2]; exact bAlloc b1 _
  have HX2 : Hid (w2.heap[w.heap.size]? = some (.cells #[.int .i64 x.kind, .int .i64 x.job, .int .i64 x.task, .int .i64 x.worker, .int .i64 x.sched, .int .i64 x.epoch, .slice A n c] 46 (0, 0))) := by rw [hw2]; exact heap_old hs1 HX1.out
  have HF2 : Hid (w2.heap[w1.heap.size]? = some (.cells #[.int .i64 x.task, .int .i64 x.worker, .int .i64 x.sched, .int .i64 x.epoch, .int .i64 n] 3 (0, 0))) := by rw [hw2]; exact heap_at rfl
  have hs2 : w1.heap.size < w2.heap.size := by rw [hw2]; simp
  rw [← hw2]
  have c1 := (cells_of_block HX2.out).1 0 _ rfl
  have c2 := (cells_of_block HX2.out).1 1 _ rfl
  clear hw2 x0 x1 x2 x3 x4 x5 x6 b1
  have hl1 : (mkB (numL (clampN x.kind))).size ≤ 8 := by rw [mkB_size]; exact numL_len_le (clampN_le _)
  have hl2 : (mkB (numL (clampN x.job))).size ≤ 8 := by rw [mkB_size]; exact numL_len_le (clampN_le _)
  have HAP := hid (mkB_append (numL (clampN x.kind)) (numL (clampN x.job)))
  obtain ⟨s1, hs1e⟩ : ∃ s, s = mkB (numL (clampN x.kind)) := ⟨_, rfl⟩
  obtain ⟨s2, hs2e⟩ : ∃ s, s = mkB (numL (clampN x.job)) := ⟨_, rfl⟩
  rw [← hs1e] at hl1 HAP
  rw [← hs2e] at hl2 HAP
  have hsum : (s1.size : Int) + (s2.size : Int) ≤ 9223372036854775807 := by omega
  have hsum2 : ¬ (9223372036854775807 : Int) < (s1.size : Int) + (s2.size : Int) := by omega
  have hsum3 : ¬ 9223372036854775807 < s1.size + s2.size := by omega
  have HS1 := hid hs1e
  have HS2 := hid hs2e
  clear hs1e hs2e
  go_region_held3 (fun w' => w'.cell? ⟨w.heap.size, 0, none⟩ = some (.int .i64 x.kind) ∧ w'.cell? ⟨w.heap.size, 1, none⟩ = some (.int .i64 x.job)) (first | exact ⟨c1, c2⟩ | exact ⟨d1, d2⟩ | exact ⟨e1, e2⟩ | go_keep) (first
    | ((with_reducible refine (rnum_calls x.kind _).mono ?_); rintro e w4 ⟨rfl, hb4⟩; have d1 := cell_keep hb4 c1; have d2 := cell_keep hb4 c2; rw [← HS1.out])
    | ((with_reducible refine (rnum_calls x.job _).mono ?_); rintro e w5 ⟨rfl, hb5⟩; have e1 := cell_keep hb5 d1; have e2 := cell_keep hb5 d2; rw [← HS2.out])
    | fail)
  have hb25 : Below w2.heap.size w2 w5 := bThen (bThen (Below.refl _ _).drew hb4) hb5
  have HB25 := hid hb25
  clear c1 c2 d1 d2 e1 e2 hb4 hb5 hb25 hsum hsum2 hsum3
  go_wp2_with fail
  go_loopw [4, 5] (fun o i wr => ∃ (k : Nat) (sv : ByteArray), k ≤ 5 ∧ i = .int .i64 k ∧ o = .string sv ∧ Hid (sv = mkB (recUp x k)) ∧ Hid (Below w2.heap.size w2 wr)) (fun _ i _ => 5 - (intOf i).toNat)
  case atStart => exact ⟨0, _, by omega, rfl, rfl, HAP, HB25⟩
  case round =>
    obtain ⟨k, sv, hk, rfl, rfl, HS, HB⟩ := hrel
    have hsz : sv.size ≤ 16 + 8 * k := by rw [HS.out, mkB_size]; exact recUp_len x k
    have k0 := (cells_of_block ((HB.out.block _ (Nat.lt_trans hs1 hs2)).trans HX2.out)).1 0 _ rfl
    by_cases hlt : k < 5
    · have kv : wr.cell? ⟨w1.heap.size, k, none⟩ = some (.int .i64 (valI x k)) := by
        have h := (cells_of_block ((HB.out.block _ hs2).trans HF2.out)).1
        match k, hlt with
        | 0, _ => exact h 0 _ rfl
        | 1, _ => exact h 1 _ rfl
        | 2, _ => exact h 2 _ rfl
        | 3, _ => exact h 3 _ rfl
        | 4, _ => have := h 4 _ rfl; rw [this]; simp [valI, HN.out]
      obtain ⟨t, ht⟩ : ∃ t, t = hasF x.kind (2 ^ k) := ⟨_, rfl⟩
      have HT := hid ht
      clear ht
      go_wp2_with fail
      refine (rhas17_calls x.kind k _ _ hlt rfl).mono ?_
      rintro e w6 ⟨rfl, rfl⟩
      rw [← HT.out]
      cases t
      · have HU := hid (show recUp x (k + 1) = recUp x k by rw [recUp, ← HT.out]; simp [optL])
        go_wp2
        go_roundw
        case rel => exact ⟨k + 1, sv, by omega, by go_num, rfl, hid (by rw [HU.out]; exact HS.out), HB⟩
        case measure => simp [intOf]; omega
      · have hl3 : (mkB (numL (clampN (valI x k)))).size ≤ 8 := by rw [mkB_size]; exact numL_len_le (clampN_le _)
        have HU := hid (show sv ++ mkB (numL (clampN (valI x k))) = mkB (recUp x (k + 1)) by rw [HS.out, mkB_append, recUp, ← HT.out]; rfl)
        obtain ⟨s3, hs3⟩ : ∃ s, s = mkB (numL (clampN (valI x k))) := ⟨_, rfl⟩
        rw [← hs3] at hl3 HU
        have HS3 := hid hs3
        clear hs3
        go_wp2_with fail
        refine (rnum_calls (valI x k) _).mono ?_
        rintro e w7 ⟨rfl, hb7⟩
        rw [← HS3.out]
        have HB7 := hid (bThen HB.out hb7)
        clear hb7 k0 kv
        go_wp2
        go_roundw
        case rel => exact ⟨k + 1, _, by omega, by go_num, rfl, HU, HB7⟩
        case measure => simp [intOf]; omega
    · obtain rfl : k = 5 := by omega
      clear k0
      go_wp2_with fail
      go_loopw [4, 6] (fun o i wr => ∃ (j : Nat) (sv : ByteArray), j ≤ n ∧ i = .int .i64 j ∧ o = .string sv ∧ Hid (sv = mkB (recHead x ++ (x.needs.take j).flatMap (fun s => textL s.data.toList))) ∧ Hid (Below w2.heap.size w2 wr)) (fun _ i _ => n - (intOf i).toNat)
      case atStart => exact ⟨0, sv, by omega, rfl, rfl, hid (by rw [HS.out, recUp_5]; simp), HB⟩
      case round =>
        obtain ⟨j, sv, hj, rfl, rfl, HS', HB'⟩ := hrel
        have k6 := (cells_of_block ((HB'.out.block _ (Nat.lt_trans hs1 hs2)).trans HX2.out)).1 6 _ rfl
        by_cases hlt2 : j < n
        · obtain ⟨a, s, rfl, hs, hcs⟩ := Kd.Row.at_str (HR.out.below (bThen B2.out HB'.out)) j (by rw [HN.out]; exact hlt2)
          have HSS := hid hs
          have hsz2 := HN2.out s (List.mem_of_getElem? hs)
          have hll := needs_len (l := x.needs.take j) (fun s hs => HN2.out s (List.mem_of_mem_take hs))
          have htl : (x.needs.take j).length ≤ j := List.length_take_le _ _
          have hhl := recHead_len x
          have hsz3 : sv.size ≤ 4000 := by rw [HS'.out, mkB_size, List.length_append]; omega
          have htx : (mkB (textL s.data.toList)).size ≤ 300 := by
            rw [mkB_size]
            have := textL_len s.data.toList (by rw [data_len]; unfold maxNum; omega)
            rw [data_len] at this; omega
          have HU := hid (show sv ++ mkB (textL s.data.toList) = mkB (recHead x ++ (x.needs.take (j + 1)).flatMap (fun s => textL s.data.toList)) by
            rw [HS'.out, mkB_append, take_snoc HSS.out]; simp)
          obtain ⟨s3, hs3⟩ : ∃ s3, s3 = mkB (textL s.data.toList) := ⟨_, rfl⟩
          rw [← hs3] at htx HU
          have HS3 := hid hs3
          clear hs3 hs hll htl hhl
          go_wp2_with fail
          refine (rtext_calls s _ (by omega)).mono ?_
          rintro e w7 ⟨rfl, hb7⟩
          rw [← HS3.out]
          have HB7 := hid (bThen HB'.out hb7)
          clear hb7 k6 hcs
          go_wp2
          go_roundw
          case rel => first | exact ⟨j + 1, _, by omega, by go_num, rfl, HU, HB7⟩ | ((repeat apply Exists.intro); exact ⟨⟨j + 1, _, by omega, by go_num, rfl, HU, HB7⟩, rfl⟩)
          case measure => simp [intOf]; omega
        · obtain rfl : j = n := by omega
          have HV := hid (show sv = mkB (recL x) by rw [HS'.out, HL.out, show x.needs.take j = x.needs by rw [← HN.out]; exact List.take_length])
          go_wp2
          go_ret
          exact ⟨ret_str HV.out, bThen B2.out HB'.out⟩

/-! ### ref17.Size -/
set_option maxHeartbeats 1600000 in
set_option maxRecDepth 100000 in
theorem rsize17_calls (x : RecS) (A : Option Addr) (n c : Nat) (w : World) (hn : Kd.str.slice.K w Any x.needs [.slice A n c]) :
    Calls Tryz.prog 60 #[.agg #[.int .i64 x.kind, .int .i64 x.job, .int .i64 x.task, .int .i64 x.worker, .int .i64 x.sched, .int .i64 x.epoch, .slice A n c]] w fun e w' => e = .returned (.int .i64 (sizeR x)) ∧ Below w.heap.size w w' := by
  have HK := hid hn
  clear hn
  cases hok : recOk x
  · have HV := hid (show sizeR x = 0 by unfold sizeR; rw [hok]; rfl)
    go_enter Tryz.func60, Tryz.ntmps60
    go_wp2_with fail
    refine (rcheck17_calls x A n c _ (Kd.below HK.out (bAlloc (Below.refl _ _) _))).mono ?_
    rintro e w1 ⟨rfl, hb1⟩
    rw [hok]
    go_wp2
    go_ret
    exact ⟨ret_int (by rw [HV.out]), bThen (bAlloc (Below.refl _ _) _) hb1⟩
  · have HV := hid (show sizeR x = (putL (recL x)).length by unfold sizeR; rw [hok]; rfl)
    go_enter Tryz.func60, Tryz.ntmps60
    go_wp2_with fail
    refine (rcheck17_calls x A n c _ (Kd.below HK.out (bAlloc (Below.refl _ _) _))).mono ?_
    rintro e w1 ⟨rfl, hb1⟩
    rw [hok]
    have b1 := bThen (bAlloc (Below.refl _ _) _) hb1
    have hx1 : w1.heap[w.heap.size]? = some (.cells #[.int .i64 x.kind, .int .i64 x.job, .int .i64 x.task, .int .i64 x.worker, .int .i64 x.sched, .int .i64 x.epoch, .slice A n c] 46 (0, 0)) := (hb1.block _ (by simp)).trans (heap_at rfl)
    obtain ⟨q1, _, _⟩ := cells_of_block hx1
    have x0 := q1 0 _ rfl
    have x1 := q1 1 _ rfl
    have x2 := q1 2 _ rfl
    have x3 := q1 3 _ rfl
    have x4 := q1 4 _ rfl
    have x5 := q1 5 _ rfl
    have x6 := q1 6 _ rfl
    clear q1 hx1 hb1
    go_wp2_with fail
    refine (rbytes17_calls x A n c _ (Kd.below HK.out b1)).mono ?_
    rintro e w2 ⟨rfl, hb2⟩
    have b2 := bThen b1 hb2
    go_wp2_with fail
    refine (rput_calls (mkB (recL x)) _).mono ?_
    rintro e w3 ⟨rfl, hb3⟩
    rw [mkB_data]
    have hsz : (mkB (putL (recL x))).size = (putL (recL x)).length := mkB_size _
    obtain ⟨m, hm⟩ : ∃ m, m = (putL (recL x)).length := ⟨_, rfl⟩
    have hml : m ≤ 5000 := by rw [hm]; have h1 := recL_len (x := x); have h2 := putL_len (l := recL x) (by omega); omega
    rw [← hm] at hsz HV
    clear hm
    go_wp2
    go_ret
    exact ⟨ret_int (by rw [HV.out]), bThen b2 hb3⟩

/-! ### Most -/
def mostR (job sched : Int) (needs : List ByteArray) : Int :=
  if sizeR ⟨1, job, 0, 0, sched, 0, needs⟩ = 0 then 0 else
    sizeR ⟨1, job, 0, 0, sched, 0, needs⟩ + needs.length * (sizeR ⟨2, job, 0, 0, 0, 1, []⟩ + sizeR ⟨3, job, 0, 0, 0, 0, []⟩) + 8 * sizeR ⟨4, job, 0, 0, 0, 1, []⟩
theorem sizeR_bound (x : RecS) : 0 ≤ sizeR x ∧ sizeR x ≤ 5000 := by
  unfold sizeR
  have h1 := recL_len (x := x)
  have h2 := putL_len (l := recL x) (by omega)
  split <;> omega

set_option maxHeartbeats 1600000 in
set_option maxRecDepth 100000 in
theorem recMost_calls (job sched : Int) (l : List ByteArray) (A : Option Addr) (n c : Nat) (w : World) (hn : Kd.str.slice.K w Any l [.slice A n c]) (hn16 : n ≤ 1000000) :
    Calls Tryz.prog 57 #[.int .i64 job, .int .i64 sched, .slice A n c] w fun e w' => e = .returned (.int .i64 (mostR job sched l)) ∧ Below w.heap.size w w' := by
  have HK := hid hn
  obtain ⟨A', c', he, hc, hm, hr⟩ := hn
  have hnl : l.length = n := by injection he with h; injection h with _ h _; exact h.symm
  have HD := hid (show mostR job sched l = if sizeR ⟨1, job, 0, 0, sched, 0, l⟩ = 0 then 0 else sizeR ⟨1, job, 0, 0, sched, 0, l⟩ + (n : Int) * (sizeR ⟨2, job, 0, 0, 0, 1, []⟩ + sizeR ⟨3, job, 0, 0, 0, 0, []⟩) + 8 * sizeR ⟨4, job, 0, 0, 0, 1, []⟩ by unfold mostR; rw [hnl])
  clear he hc hm hr hnl
  have hs1 := sizeR_bound ⟨1, job, 0, 0, sched, 0, l⟩
  have hs2 := sizeR_bound ⟨2, job, 0, 0, 0, 1, []⟩
  have hs3 := sizeR_bound ⟨3, job, 0, 0, 0, 0, []⟩
  have hs4 := sizeR_bound ⟨4, job, 0, 0, 0, 1, []⟩
  have C1 := hid (fun w' h => recSize_calls ⟨1, job, 0, 0, sched, 0, l⟩ A n c w' (Kd.below (w := w) HK.out h))
  have C2 := hid (fun w' => recSize_calls ⟨2, job, 0, 0, 0, 1, []⟩ none 0 0 w' ⟨none, 0, rfl, by simp, by simp, Kd.Row.nil⟩)
  have C3 := hid (fun w' => recSize_calls ⟨3, job, 0, 0, 0, 0, []⟩ none 0 0 w' ⟨none, 0, rfl, by simp, by simp, Kd.Row.nil⟩)
  have C4 := hid (fun w' => recSize_calls ⟨4, job, 0, 0, 0, 1, []⟩ none 0 0 w' ⟨none, 0, rfl, by simp, by simp, Kd.Row.nil⟩)
  obtain ⟨z1, h1⟩ : ∃ z, z = sizeR ⟨1, job, 0, 0, sched, 0, l⟩ := ⟨_, rfl⟩
  obtain ⟨z2, h2⟩ : ∃ z, z = sizeR ⟨2, job, 0, 0, 0, 1, []⟩ := ⟨_, rfl⟩
  obtain ⟨z3, h3⟩ : ∃ z, z = sizeR ⟨3, job, 0, 0, 0, 0, []⟩ := ⟨_, rfl⟩
  obtain ⟨z4, h4⟩ : ∃ z, z = sizeR ⟨4, job, 0, 0, 0, 1, []⟩ := ⟨_, rfl⟩
  rw [← h1] at C1 hs1 HD
  rw [← h2] at C2 hs2 HD
  rw [← h3] at C3 hs3 HD
  rw [← h4] at C4 hs4 HD
  obtain ⟨hs1, hs1'⟩ := hs1
  obtain ⟨hs2, hs2'⟩ := hs2
  obtain ⟨hs3, hs3'⟩ := hs3
  obtain ⟨hs4, hs4'⟩ := hs4
  clear h1 h2 h3 h4
  by_cases h0 : z1 = 0
  · have HV := hid (show mostR job sched l = 0 by rw [HD.out, if_pos h0])
    have e0 : (z1 == (0 : Int)) = true := by rw [beq_iff_eq]; exact h0
    clear h0
    go_enter Tryz.func57, Tryz.ntmps57
    go_wp2_with fail
    refine (C1.out _ (Below.refl _ _)).mono ?_
    rintro e w1 ⟨rfl, hb1⟩
    go_wp2
    go_ret
    exact ⟨ret_int (by rw [HV.out]), hb1⟩
  · have HV := hid (show mostR job sched l = z1 + n * (z2 + z3) + 8 * z4 by rw [HD.out, if_neg h0])
    have e0 : (z1 == (0 : Int)) = false := by rw [beq_eq_false_iff_ne]; exact h0
    have hp1 : 0 ≤ (n : Int) * (z2 + z3) := Int.mul_nonneg (by omega) (by omega)
    have hp2 : (n : Int) * (z2 + z3) ≤ 1000000 * 10000 := Int.mul_le_mul (by omega) (by omega) (by omega) (by omega)
    clear h0
    go_enter Tryz.func57, Tryz.ntmps57
    go_wp2_with fail
    refine (C1.out _ (Below.refl _ _)).mono ?_
    rintro e w1 ⟨rfl, hb1⟩
    go_wp2_with fail
    refine (C2.out _).mono ?_
    rintro e w2 ⟨rfl, hb2⟩
    have b2 := bThen hb1 hb2
    go_wp2_with fail
    refine (C3.out _).mono ?_
    rintro e w3 ⟨rfl, hb3⟩
    have b3 := bThen b2 hb3
    go_wp2_with fail
    refine (C4.out _).mono ?_
    rintro e w4 ⟨rfl, hb4⟩
    have b4 := bThen b3 hb4
    go_wp2
    go_ret
    exact ⟨ret_int (by rw [HV.out]), b4⟩

end Go.Proofs.YtkjncmmombkllaaGreat
