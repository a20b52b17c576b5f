import Derived.Test.YtahhhnbpohcbfaaLaw17P
import Derived.Test.YtahhhnbpohcbfaaPrL
import Derived.Test.YtahhhnbpohcbfaaReg2
namespace Go.Proofs.Ytahhhnbpohcbfaa
open Go.RowKit

set_option maxHeartbeats 12800000 in
set_option maxRecDepth 100000 in
theorem recBackLaw_calls (x : RecS) (A : Option Addr) (n c : Nat) (b : List UInt8) (B : Option Addr) (d : Nat) (w : World) (hn : Kd.str.slice.K w Any x.needs [.slice A n c]) (hm : Kd.u8.slice.K w Any b [.slice B b.length d]) :
    Calls Try.prog 5 #[.agg #[.int .i64 x.kind, .int .i64 x.job, .int .i64 x.task, .int .i64 x.worker, .int .i64 x.sched, .int .i64 x.epoch, .slice A n c], .slice B b.length d] w fun e w' => e = .returned (.bool true) ∧ Below w.heap.size w w' := by
  have CK := hid (fun w1 (h : Below w.heap.size w w1) => recCheck_calls x A n c w1 (Kd.below hn h))
  have CB := hid (fun w1 (h : Below w.heap.size w w1) => recBytes_calls x A n c w1 (Kd.below hn h))
  have HN := hid hn
  have HM := hid hm
  clear hn hm
  by_cases hl : (4000 : Int) < b.length
  case pos =>
    go_enter Try.func5, Try.ntmps5
    go_wp2_with fail
    refine (works17_calls _).mono ?_
    rintro e w1 ⟨rfl, hb1⟩
    go_wp2
    go_ret
    exact ⟨rfl, bThen (bAlloc (Below.refl _ _) _) hb1⟩
  have hl2 : b.length ≤ 1000000 := by omega
  have C1 := fun w1 (h : Below w.heap.size w w1) => recParse_calls b (.slice B b.length d) w1 (Kd.below HM.out h) hl2
  obtain ⟨Y, hY⟩ : ∃ Y, Y = parseR b := ⟨_, rfl⟩
  obtain ⟨E, hE⟩ : ∃ E, E = parseE b := ⟨_, rfl⟩
  have HYE : Hid (E = 0 → recOk Y = true ∧ recL Y = b) := fun h => by
    rw [hE] at h
    have := parse_back h
    rw [hY]
    unfold parseR
    rw [if_pos h]
    exact this
  rw [← hY, ← hE] at C1
  have C1 := hid C1
  clear hY hE
  have C4 : Hid (recOk x = true → ∀ w1 v, Kd.u8.slice.K w1 Any (recL x) [v] → Calls Try.prog 24 #[v] w1 fun e w' => ∃ A n c, e = .returned (.tuple #[.agg #[.int .i64 x.kind, .int .i64 x.job, .int .i64 x.task, .int .i64 x.worker, .int .i64 x.sched, .int .i64 x.epoch, .slice A n c], .int .i64 0]) ∧ Kd.str.slice.K w' (fun k => w1.heap.size ≤ k) x.needs [.slice A n c] ∧ Below w1.heap.size w1 w') := fun hok w1 v h => by
    have h2 := recParse_calls (recL x) v w1 h (by have := recL_len (x := x); omega)
    obtain ⟨h3, h4⟩ := parse_of_bytes hok
    rw [h3, h4] at h2
    exact h2
  have C5 : Hid (recOk x = true → ∀ w1 v, Kd.u8.slice.K w1 Any (recL x ++ [0]) [v] → Calls Try.prog 24 #[v] w1 fun e w' => ∃ A n c, e = .returned (.tuple #[.agg #[.int .i64 0, .int .i64 0, .int .i64 0, .int .i64 0, .int .i64 0, .int .i64 0, .slice A n c], .int .i64 3]) ∧ Below w1.heap.size w1 w') := fun hok w1 v h => by
    have h2 := recParse_calls (recL x ++ [0]) v w1 h (by have := recL_len (x := x); simp; omega)
    have h4 := parse_longer hok 0 []
    have h3 : parseR (recL x ++ [0]) = recZ := by unfold parseR; rw [if_neg (by rw [h4]; decide)]
    rw [h3, h4] at h2
    exact h2.mono (fun e w' ⟨A, n, c, h5, _, h6⟩ => ⟨A, n, c, h5, h6⟩)
  have HRL := hid (recL_len (x := x))
  go_enter Try.func5, Try.ntmps5
  go_wp2_with fail
  obtain ⟨W0, hW0⟩ : ∃ W0, W0 = w.alloc (Obj.cells #[.int .i64 x.kind, .int .i64 x.job, .int .i64 x.task, .int .i64 x.worker, .int .i64 x.sched, .int .i64 x.epoch, .slice A n c] 24) := ⟨_, rfl⟩
  have HX0 : Hid (W0.heap[w.heap.size]? = some (.cells #[.int .i64 x.kind, .int .i64 x.job, .int .i64 x.task, .int .i64 x.worker, .int .i64 x.sched, .int .i64 x.epoch, .slice A n c] 24 (0, 0))) := by rw [hW0]; exact heap_at rfl
  have b0 := hid (show Below w.heap.size w W0 by rw [hW0]; exact bAlloc (Below.refl _ _) _)
  have hzx : w.heap.size < W0.heap.size := by rw [hW0]; simp
  rw [← hW0]
  clear hW0
  refine (C1.out _ b0.out).mono ?_
  rintro e w1 ⟨A1, n1, c1, rfl, hk1, hb1⟩
  have HK1 := hid hk1
  have B1 := hid hb1
  clear hk1 hb1
  go_wp2_with fail
  obtain ⟨V, hV⟩ : ∃ V, V = w1.alloc (Obj.cells #[.int .i64 Y.kind, .int .i64 Y.job, .int .i64 Y.task, .int .i64 Y.worker, .int .i64 Y.sched, .int .i64 Y.epoch, .slice A1 n1 c1] 24) := ⟨_, rfl⟩
  have HY0 : Hid (V.heap[w1.heap.size]? = some (.cells #[.int .i64 Y.kind, .int .i64 Y.job, .int .i64 Y.task, .int .i64 Y.worker, .int .i64 Y.sched, .int .i64 Y.epoch, .slice A1 n1 c1] 24 (0, 0))) := by rw [hV]; exact heap_at rfl
  have hzy : w1.heap.size < V.heap.size := by rw [hV]; simp
  have hs1 := B1.out.size
  have BV := hid (show Below W0.heap.size W0 V by rw [hV]; exact bAlloc B1.out _)
  have HKV := hid (show Kd.str.slice.K V Any Y.needs [.slice A1 n1 c1] by rw [hV]; exact Kd.any (Kd.below HK1.out (bAlloc (Below.refl _ _) _)))
  rw [← hV]
  clear hV
  by_cases hE : E = 0
  case pos =>
    obtain ⟨hY1, hY2⟩ := HYE.out hE
    subst hE
    have HY1 := hid hY1
    have HY2 := hid hY2
    have DK := hid (fun w2 (h : Below V.heap.size V w2) => recCheck_calls Y A1 n1 c1 w2 (Kd.below HKV.out h))
    have DB := hid (fun w2 (h : Below V.heap.size V w2) => recBytes_calls Y A1 n1 c1 w2 (Kd.below HKV.out h))
    have HCB : Hid (∀ w2, Below V.heap.size V w2 → (convert 27 9 (.slice B b.length d)).run Try.prog w2 = .ok (.string ⟨b.toArray⟩) w2) := fun w2 h => conv_u8 (Kd.below HM.out (bThen b0.out (bThen BV.out h)))
    clear hY1 hY2
    obtain ⟨q0, q1, q2, q3, q4, q5, q6⟩ := rec_cells (((Below.refl _ _).drew.block _ hzy).trans HY0.out)
    have q7 := HCB.out _ (Below.refl V.heap.size V).drew
    refine wp_region_held_drew (S := fun w' => w'.cell? ⟨w1.heap.size, 0, none⟩ = some (.int .i64 Y.kind) ∧ w'.cell? ⟨w1.heap.size, 1, none⟩ = some (.int .i64 Y.job) ∧ w'.cell? ⟨w1.heap.size, 2, none⟩ = some (.int .i64 Y.task) ∧ w'.cell? ⟨w1.heap.size, 3, none⟩ = some (.int .i64 Y.worker) ∧ w'.cell? ⟨w1.heap.size, 4, none⟩ = some (.int .i64 Y.sched) ∧ w'.cell? ⟨w1.heap.size, 5, none⟩ = some (.int .i64 Y.epoch) ∧ w'.cell? ⟨w1.heap.size, 6, none⟩ = some (.slice A1 n1 c1) ∧ (convert 27 9 (.slice B b.length d)).run Try.prog w' = .ok (.string ⟨b.toArray⟩) w') (by kernel_rfl) ⟨q0, q1, q2, q3, q4, q5, q6, q7⟩ (fun hHeld => ?_)
    refine anyH_take 0 (v := ?_) rfl (by kernel_rfl) (by kernel_rfl) (by kernel_rfl) (fun _ _ _ h => h) (by rfl) hHeld ?_ ?_
    rotate_left
    · (intro w hSw; (try dsimp only at hSw); go_split_ands; go_simp; try with_reducible rfl)
    (try simp only [Act.put, List.setIfInBounds_toArray, List.set_cons_zero, List.set_cons_succ])
    refine anyH_take 1 (v := ?_) rfl (by kernel_rfl) (by kernel_rfl) (by kernel_rfl) (fun _ _ _ h => h) (by rfl) hHeld ?_ ?_
    rotate_left
    · (intro w hSw; (try dsimp only at hSw); go_split_ands; go_simp; try with_reducible rfl)
    (try simp only [Act.put, List.setIfInBounds_toArray, List.set_cons_zero, List.set_cons_succ])
    refine anyH_take 2 (v := ?_) rfl (by kernel_rfl) (by kernel_rfl) (by kernel_rfl) (fun _ _ _ h => h) (by rfl) hHeld ?_ ?_
    rotate_left
    · (intro w hSw; (try dsimp only at hSw); go_split_ands; go_simp; try with_reducible rfl)
    (try simp only [Act.put, List.setIfInBounds_toArray, List.set_cons_zero, List.set_cons_succ])
    refine anyH_take 3 (v := ?_) rfl (by kernel_rfl) (by kernel_rfl) (by kernel_rfl) (fun _ _ _ h => h) (by rfl) hHeld ?_ ?_
    rotate_left
    · (intro w hSw; (try dsimp only at hSw); go_split_ands; go_simp; try with_reducible rfl)
    (try simp only [Act.put, List.setIfInBounds_toArray, List.set_cons_zero, List.set_cons_succ])
    refine anyH_one 4 rfl (by kernel_rfl) (fun K hK => ?_)
    go_simp
    refine (DK.out _ (Below.refl V.heap.size V).drew).mono ?_
    rintro e u1 ⟨rfl, hb1⟩
    rw [HY1.out]
    have U1 := hid (show Below V.heap.size V u1 from bThen (Below.refl V.heap.size V).drew hb1)
    obtain ⟨p0, p1, p2, p3, p4, p5, p6⟩ := rec_cells ((U1.out.block _ hzy).trans HY0.out)
    have p7 := HCB.out _ U1.out
    go_simp
    refine hK.out _ _ ⟨p0, p1, p2, p3, p4, p5, p6, p7⟩ (fun hHeld => ?_)
    clear hK K
    (try simp only [Act.put, List.setIfInBounds_toArray, List.set_cons_zero, List.set_cons_succ])
    clear q0 q1 q2 q3 q4 q5 q6 q7 p0 p1 p2 p3 p4 p5 p6 p7 hb1
    refine anyH_take 5 (v := ?_) rfl (by kernel_rfl) (by kernel_rfl) (by kernel_rfl) (fun _ _ _ h => h) (by rfl) hHeld ?_ ?_
    rotate_left
    · (intro w hSw; (try dsimp only at hSw); go_split_ands; go_simp; try with_reducible rfl)
    (try simp only [Act.put, List.setIfInBounds_toArray, List.set_cons_zero, List.set_cons_succ])
    refine anyH_take 6 (v := ?_) rfl (by kernel_rfl) (by kernel_rfl) (by kernel_rfl) (fun _ _ _ h => h) (by rfl) hHeld ?_ ?_
    rotate_left
    · (intro w hSw; (try dsimp only at hSw); go_split_ands; go_simp; try with_reducible rfl)
    (try simp only [Act.put, List.setIfInBounds_toArray, List.set_cons_zero, List.set_cons_succ])
    refine anyH_take 7 (v := ?_) rfl (by kernel_rfl) (by kernel_rfl) (by kernel_rfl) (fun _ _ _ h => h) (by rfl) hHeld ?_ ?_
    rotate_left
    · (intro w hSw; (try dsimp only at hSw); go_split_ands; go_simp; try with_reducible rfl)
    (try simp only [Act.put, List.setIfInBounds_toArray, List.set_cons_zero, List.set_cons_succ])
    refine anyH_take 10 (v := ?_) rfl (by kernel_rfl) (by kernel_rfl) (by kernel_rfl) (fun _ _ _ h => h) (by rfl) hHeld ?_ ?_
    rotate_left
    · (intro w hSw; (try dsimp only at hSw); go_split_ands; go_simp; try with_reducible rfl)
    (try simp only [Act.put, List.setIfInBounds_toArray, List.set_cons_zero, List.set_cons_succ])
    refine anyH_take 11 (v := ?_) rfl (by kernel_rfl) (by kernel_rfl) (by kernel_rfl) (fun _ _ _ h => h) (by rfl) hHeld ?_ ?_
    rotate_left
    · (intro w hSw; (try dsimp only at hSw); go_split_ands; go_simp; try with_reducible rfl)
    (try simp only [Act.put, List.setIfInBounds_toArray, List.set_cons_zero, List.set_cons_succ])
    refine anyH_one 8 rfl (by kernel_rfl) (fun K hK => ?_)
    go_simp
    refine (DB.out _ U1.out).mono ?_
    rintro e u2 ⟨A2, m2, c2, rfl, hO2, hb2⟩
    rw [HY2.out] at hO2
    have U2 := hid (show Below V.heap.size V u2 from bThen U1.out hb2)
    obtain ⟨p0, p1, p2, p3, p4, p5, p6⟩ := rec_cells ((U2.out.block _ hzy).trans HY0.out)
    have p7 := HCB.out _ U2.out
    have hcv := conv_u8 (Kd.any (Own.K hO2))
    go_simp
    refine hK.out _ _ ⟨p0, p1, p2, p3, p4, p5, p6, p7⟩ (fun hHeld => ?_)
    clear hK K
    (try simp only [Act.put, List.setIfInBounds_toArray, List.set_cons_zero, List.set_cons_succ])
    clear p0 p1 p2 p3 p4 p5 p6 p7 hb2
    refine wpAnyH_more (S1 := fun w' => (w'.cell? ⟨w1.heap.size, 0, none⟩ = some (.int .i64 Y.kind) ∧ w'.cell? ⟨w1.heap.size, 1, none⟩ = some (.int .i64 Y.job) ∧ w'.cell? ⟨w1.heap.size, 2, none⟩ = some (.int .i64 Y.task) ∧ w'.cell? ⟨w1.heap.size, 3, none⟩ = some (.int .i64 Y.worker) ∧ w'.cell? ⟨w1.heap.size, 4, none⟩ = some (.int .i64 Y.sched) ∧ w'.cell? ⟨w1.heap.size, 5, none⟩ = some (.int .i64 Y.epoch) ∧ w'.cell? ⟨w1.heap.size, 6, none⟩ = some (.slice A1 n1 c1) ∧ (convert 27 9 (.slice B b.length d)).run Try.prog w' = .ok (.string ⟨b.toArray⟩) w') ∧ (convert 27 9 (.slice A2 m2 c2)).run Try.prog w' = .ok (.string ⟨b.toArray⟩) w') (fun _ h => h.1) _ _ _ _ ?_
    refine anyH_take 9 (v := ?_) rfl (by kernel_rfl) (by kernel_rfl) (by kernel_rfl) (fun _ _ _ h => h) (by rfl) ⟨hHeld, hcv⟩ ?_ ?_
    rotate_left
    · (intro w hSw; (try dsimp only at hSw); go_split_ands; go_simp; try with_reducible rfl)
    (try simp only [Act.put, List.setIfInBounds_toArray, List.set_cons_zero, List.set_cons_succ])
    refine anyH_take 12 (v := ?_) rfl (by kernel_rfl) (by kernel_rfl) (by kernel_rfl) (fun _ _ _ h => h) (by rfl) ⟨hHeld, hcv⟩ ?_ ?_
    rotate_left
    · (intro w hSw; (try dsimp only at hSw); go_split_ands; go_simp; try with_reducible rfl)
    (try simp only [Act.put, List.setIfInBounds_toArray, List.set_cons_zero, List.set_cons_succ])
    refine anyH_take 13 (v := ?_) rfl (by kernel_rfl) (by kernel_rfl) (by kernel_rfl) (fun _ _ _ h => h) (by rfl) ⟨hHeld, hcv⟩ ?_ ?_
    rotate_left
    · (intro w hSw; (try dsimp only at hSw); go_split_ands; go_simp; try with_reducible rfl)
    (try simp only [Act.put, List.setIfInBounds_toArray, List.set_cons_zero, List.set_cons_succ])
    refine anyH_take 14 (v := ?_) rfl (by kernel_rfl) (by kernel_rfl) (by kernel_rfl) (fun _ _ _ h => h) (by rfl) ⟨hHeld, hcv⟩ ?_ ?_
    rotate_left
    · (intro w hSw; (try dsimp only at hSw); go_split_ands; go_simp; try with_reducible rfl)
    (try simp only [Act.put, List.setIfInBounds_toArray, List.set_cons_zero, List.set_cons_succ])
    refine wpAnyH_done (by kernel_rfl) ?_ _
    have BZ := hid (bThen BV.out U2.out)
    clear hHeld hcv hO2
    cases hok : recOk x
    case false =>
      obtain ⟨x0, x1, x2, x3, x4, x5, x6⟩ := rec_cells ((BZ.out.block _ hzx).trans HX0.out)
      go_wp2_with fail
      refine (CK.out _ (bThen b0.out BZ.out)).mono ?_
      rintro e v1 ⟨rfl, hb1⟩
      have Z1 := hid (bThen BZ.out hb1)
      rw [hok]
      clear hb1 x0 x1 x2 x3 x4 x5 x6
      obtain ⟨x0, x1, x2, x3, x4, x5, x6⟩ := rec_cells ((Z1.out.block _ hzx).trans HX0.out)
      have hrl : recL x = [] := by unfold recL; rw [hok]; rfl
      go_wp2_with fail
      refine (CB.out _ (bThen b0.out Z1.out)).mono ?_
      rintro e v2 ⟨A2, m2, c2, rfl, hO2, hb2⟩
      obtain rfl : m2 = 0 := by
        obtain ⟨_, _, h3, _⟩ := hO2.shape
        rw [hrl] at h3
        injection h3
      have Z2 := hid (bThen Z1.out hb2)
      clear hb2 hO2 hrl x0 x1 x2 x3 x4 x5 x6
      go_wp2_with fail
      refine (works17_calls _).mono ?_
      rintro e v3 ⟨rfl, hb3⟩
      go_wp2
      go_ret
      exact ⟨rfl, bThen b0.out (bThen Z2.out hb3)⟩
    case true =>
      have HOK := hid hok
      obtain ⟨x0, x1, x2, x3, x4, x5, x6⟩ := rec_cells ((BZ.out.block _ hzx).trans HX0.out)
      go_wp2_with fail
      refine (CK.out _ (bThen b0.out BZ.out)).mono ?_
      rintro e v1 ⟨rfl, hb1⟩
      have Z1 := hid (bThen BZ.out hb1)
      rw [hok]
      clear hb1 x0 x1 x2 x3 x4 x5 x6
      obtain ⟨x0, x1, x2, x3, x4, x5, x6⟩ := rec_cells ((Z1.out.block _ hzx).trans HX0.out)
      go_wp2_with fail
      refine (CB.out _ (bThen b0.out Z1.out)).mono ?_
      rintro e v2 ⟨A2, m2, c2, rfl, hO2, hb2⟩
      have HO2 := hid hO2
      have Z2 := hid (bThen Z1.out hb2)
      clear hb2 hO2 x0 x1 x2 x3 x4 x5 x6
      go_wp2_with fail
      refine (C4.out HOK.out _ _ (Kd.any (Own.K HO2.out))).mono ?_
      rintro e v3 ⟨A3, n3, c3, rfl, hk3, hb3⟩
      have Z3 := hid (bAlloc (bThen Z2.out hb3) (.cells #[.int .i64 x.kind, .int .i64 x.job, .int .i64 x.task, .int .i64 x.worker, .int .i64 x.sched, .int .i64 x.epoch, .slice A3 n3 c3] 24))
      have HZ0 : Hid ((v3.alloc (.cells #[.int .i64 x.kind, .int .i64 x.job, .int .i64 x.task, .int .i64 x.worker, .int .i64 x.sched, .int .i64 x.epoch, .slice A3 n3 c3] 24)).heap[v3.heap.size]? = some (.cells #[.int .i64 x.kind, .int .i64 x.job, .int .i64 x.task, .int .i64 x.worker, .int .i64 x.sched, .int .i64 x.epoch, .slice A3 n3 c3] 24 (0, 0))) := heap_at rfl
      have HK3 := hid (show Kd.str.slice.K (v3.alloc (.cells #[.int .i64 x.kind, .int .i64 x.job, .int .i64 x.task, .int .i64 x.worker, .int .i64 x.sched, .int .i64 x.epoch, .slice A3 n3 c3] 24)) Any x.needs [.slice A3 n3 c3] from Kd.any (Kd.below hk3 (bAlloc (Below.refl _ _) _)))
      clear hk3 hb3 HO2
      obtain ⟨x0, x1, x2, x3, x4, x5, x6⟩ := rec_cells ((Z3.out.block _ hzx).trans HX0.out)
      go_wp2_with fail
      refine (CB.out _ (bThen b0.out Z3.out)).mono ?_
      rintro e v4 ⟨A4, m4, c4, rfl, hO4, hb4⟩
      have HO4 := hid hO4
      have Z4 := hid (bThen Z3.out hb4)
      have B4 := hid hb4
      clear hb4 hO4 x0 x1 x2 x3 x4 x5 x6
      go_wp2_with (at_builtin; go_must (refine append_arm Kd.u8 (w0 := v4) (W := v4) (v3.alloc (.cells #[.int .i64 x.kind, .int .i64 x.job, .int .i64 x.task, .int .i64 x.worker, .int .i64 x.sched, .int .i64 x.epoch, .slice A3 n3 c3] 24)).heap.size rfl _ _ 27 5 _ 1 rfl Try.underlying27 Try.infoU8 rfl (by decide) (by decide) (.slice A4 m4 c4) (recL x) (0 : UInt8) [.int .u8 0] NoT NoT rfl rfl rfl (fun _ h => h.elim) HO4.out (Below.refl _ _) B4.out.size (by have := HRL.out; omega) ?_))
      intro u5 v5 hO5 hb5 _ _
      obtain ⟨A5, m5, c5, rfl, hq1, hq2⟩ := hO5.shape'
      clear hq1 hq2
      have HO5 := hid hO5
      have B5 := hid (B4.out.trans (show Below (v3.alloc (.cells #[.int .i64 x.kind, .int .i64 x.job, .int .i64 x.task, .int .i64 x.worker, .int .i64 x.sched, .int .i64 x.epoch, .slice A3 n3 c3] 24)).heap.size v4 v5 by simpa using hb5))
      have Z5 := hid (Z3.out.trans (B5.out.mono Z3.out.size))
      clear hO5 hb5 HO4 B4
      go_wp2_with fail
      refine (C5.out HOK.out _ _ (Kd.any (Own.K HO5.out))).mono ?_
      rintro e v6 ⟨A6, n6, c6, rfl, hb6⟩
      have B6 := hid (bAlloc (bThen B5.out hb6) (.cells #[.int .i64 0, .int .i64 0, .int .i64 0, .int .i64 0, .int .i64 0, .int .i64 0, .slice A6 n6 c6] 24))
      have Z6 := hid (Z3.out.trans (B6.out.mono Z3.out.size))
      clear hb6 HO5
      obtain ⟨x0, x1, x2, x3, x4, x5, x6⟩ := rec_cells ((Z6.out.block _ hzx).trans HX0.out)
      obtain ⟨y0, y1, y2, y3, y4, y5, y6⟩ := rec_cells ((B6.out.block _ (by simp)).trans HZ0.out)
      go_wp2_with fail
      refine (rsame17_calls x x A3 A n3 c3 n c _ (Kd.below HK3.out B6.out) (Kd.below HN.out (bThen b0.out Z6.out))).mono ?_
      rintro e v7 ⟨rfl, hb7⟩
      rw [show decide (x = x) = true from decide_eq_true rfl]
      have Z7 := hid (bThen Z6.out hb7)
      clear hb7 x0 x1 x2 x3 x4 x5 x6 y0 y1 y2 y3 y4 y5 y6
      go_wp2_with fail
      refine (works17_calls _).mono ?_
      rintro e v8 ⟨rfl, hb8⟩
      go_wp2
      go_ret
      exact ⟨rfl, bThen b0.out (bThen Z7.out hb8)⟩
  case neg =>
    have e0 : (E == (0 : Int)) = false := by rw [beq_eq_false_iff_ne]; exact hE
    clear hE
    refine wp_region_held_drew (S := fun _ => True) (by kernel_rfl) trivial (fun hHeld => ?_)
    refine anyH_take 0 (v := ?_) rfl (by kernel_rfl) (by kernel_rfl) (by kernel_rfl) (fun _ _ _ h => h) (by rfl) hHeld ?_ ?_
    rotate_left
    · (intro w hSw; (try dsimp only at hSw); go_split_ands; go_simp; try with_reducible rfl)
    (try simp only [Act.put, List.setIfInBounds_toArray, List.set_cons_zero, List.set_cons_succ])
    refine anyH_take 1 (v := ?_) rfl (by kernel_rfl) (by kernel_rfl) (by kernel_rfl) (fun _ _ _ h => h) (by rfl) hHeld ?_ ?_
    rotate_left
    · (intro w hSw; (try dsimp only at hSw); go_split_ands; go_simp; try with_reducible rfl)
    (try simp only [Act.put, List.setIfInBounds_toArray, List.set_cons_zero, List.set_cons_succ])
    refine anyH_take 2 (v := ?_) rfl (by kernel_rfl) (by kernel_rfl) (by kernel_rfl) (fun _ _ _ h => h) (by rfl) hHeld ?_ ?_
    rotate_left
    · (intro w hSw; (try dsimp only at hSw); go_split_ands; go_simp; try with_reducible rfl)
    (try simp only [Act.put, List.setIfInBounds_toArray, List.set_cons_zero, List.set_cons_succ])
    refine anyH_skip 3 rfl (by kernel_rfl) (by kernel_rfl) (by kernel_rfl) (fun _ _ _ h => h) (by rfl) hHeld ?_
    (try simp only [Act.put, List.setIfInBounds_toArray, List.set_cons_zero, List.set_cons_succ])
    refine anyH_skip 4 rfl (by kernel_rfl) (by kernel_rfl) (by kernel_rfl) (fun _ _ _ h => h) (by rfl) hHeld ?_
    (try simp only [Act.put, List.setIfInBounds_toArray, List.set_cons_zero, List.set_cons_succ])
    refine anyH_skip 5 rfl (by kernel_rfl) (by kernel_rfl) (by kernel_rfl) (fun _ _ _ h => h) (by rfl) hHeld ?_
    (try simp only [Act.put, List.setIfInBounds_toArray, List.set_cons_zero, List.set_cons_succ])
    refine anyH_skip 6 rfl (by kernel_rfl) (by kernel_rfl) (by kernel_rfl) (fun _ _ _ h => h) (by rfl) hHeld ?_
    (try simp only [Act.put, List.setIfInBounds_toArray, List.set_cons_zero, List.set_cons_succ])
    refine anyH_skip 7 rfl (by kernel_rfl) (by kernel_rfl) (by kernel_rfl) (fun _ _ _ h => h) (by rfl) hHeld ?_
    (try simp only [Act.put, List.setIfInBounds_toArray, List.set_cons_zero, List.set_cons_succ])
    refine anyH_skip 8 rfl (by kernel_rfl) (by kernel_rfl) (by kernel_rfl) (fun _ _ _ h => h) (by rfl) hHeld ?_
    (try simp only [Act.put, List.setIfInBounds_toArray, List.set_cons_zero, List.set_cons_succ])
    refine anyH_skip 9 rfl (by kernel_rfl) (by kernel_rfl) (by kernel_rfl) (fun _ _ _ h => h) (by rfl) hHeld ?_
    (try simp only [Act.put, List.setIfInBounds_toArray, List.set_cons_zero, List.set_cons_succ])
    refine anyH_skip 10 rfl (by kernel_rfl) (by kernel_rfl) (by kernel_rfl) (fun _ _ _ h => h) (by rfl) hHeld ?_
    (try simp only [Act.put, List.setIfInBounds_toArray, List.set_cons_zero, List.set_cons_succ])
    refine anyH_skip 11 rfl (by kernel_rfl) (by kernel_rfl) (by kernel_rfl) (fun _ _ _ h => h) (by rfl) hHeld ?_
    (try simp only [Act.put, List.setIfInBounds_toArray, List.set_cons_zero, List.set_cons_succ])
    refine anyH_skip 12 rfl (by kernel_rfl) (by kernel_rfl) (by kernel_rfl) (fun _ _ _ h => h) (by rfl) hHeld ?_
    (try simp only [Act.put, List.setIfInBounds_toArray, List.set_cons_zero, List.set_cons_succ])
    refine anyH_skip 13 rfl (by kernel_rfl) (by kernel_rfl) (by kernel_rfl) (fun _ _ _ h => h) (by rfl) hHeld ?_
    (try simp only [Act.put, List.setIfInBounds_toArray, List.set_cons_zero, List.set_cons_succ])
    refine anyH_take 14 (v := ?_) rfl (by kernel_rfl) (by kernel_rfl) (by kernel_rfl) (fun _ _ _ h => h) (by rfl) hHeld ?_ ?_
    rotate_left
    · (intro w hSw; (try dsimp only at hSw); go_split_ands; go_simp; try with_reducible rfl)
    (try simp only [Act.put, List.setIfInBounds_toArray, List.set_cons_zero, List.set_cons_succ])
    refine wpAnyH_done (by kernel_rfl) ?_ _
    have BZ := hid (bThen BV.out (Below.refl _ _).drew)
    clear hHeld
    cases hok : recOk x
    case false =>
      obtain ⟨x0, x1, x2, x3, x4, x5, x6⟩ := rec_cells ((BZ.out.block _ hzx).trans HX0.out)
      go_wp2_with fail
      refine (CK.out _ (bThen b0.out BZ.out)).mono ?_
      rintro e v1 ⟨rfl, hb1⟩
      have Z1 := hid (bThen BZ.out hb1)
      rw [hok]
      clear hb1 x0 x1 x2 x3 x4 x5 x6
      obtain ⟨x0, x1, x2, x3, x4, x5, x6⟩ := rec_cells ((Z1.out.block _ hzx).trans HX0.out)
      have hrl : recL x = [] := by unfold recL; rw [hok]; rfl
      go_wp2_with fail
      refine (CB.out _ (bThen b0.out Z1.out)).mono ?_
      rintro e v2 ⟨A2, m2, c2, rfl, hO2, hb2⟩
      obtain rfl : m2 = 0 := by
        obtain ⟨_, _, h3, _⟩ := hO2.shape
        rw [hrl] at h3
        injection h3
      have Z2 := hid (bThen Z1.out hb2)
      clear hb2 hO2 hrl x0 x1 x2 x3 x4 x5 x6
      go_wp2_with fail
      refine (works17_calls _).mono ?_
      rintro e v3 ⟨rfl, hb3⟩
      go_wp2
      go_ret
      exact ⟨rfl, bThen b0.out (bThen Z2.out hb3)⟩
    case true =>
      have HOK := hid hok
      obtain ⟨x0, x1, x2, x3, x4, x5, x6⟩ := rec_cells ((BZ.out.block _ hzx).trans HX0.out)
      go_wp2_with fail
      refine (CK.out _ (bThen b0.out BZ.out)).mono ?_
      rintro e v1 ⟨rfl, hb1⟩
      have Z1 := hid (bThen BZ.out hb1)
      rw [hok]
      clear hb1 x0 x1 x2 x3 x4 x5 x6
      obtain ⟨x0, x1, x2, x3, x4, x5, x6⟩ := rec_cells ((Z1.out.block _ hzx).trans HX0.out)
      go_wp2_with fail
      refine (CB.out _ (bThen b0.out Z1.out)).mono ?_
      rintro e v2 ⟨A2, m2, c2, rfl, hO2, hb2⟩
      have HO2 := hid hO2
      have Z2 := hid (bThen Z1.out hb2)
      clear hb2 hO2 x0 x1 x2 x3 x4 x5 x6
      go_wp2_with fail
      refine (C4.out HOK.out _ _ (Kd.any (Own.K HO2.out))).mono ?_
      rintro e v3 ⟨A3, n3, c3, rfl, hk3, hb3⟩
      have Z3 := hid (bAlloc (bThen Z2.out hb3) (.cells #[.int .i64 x.kind, .int .i64 x.job, .int .i64 x.task, .int .i64 x.worker, .int .i64 x.sched, .int .i64 x.epoch, .slice A3 n3 c3] 24))
      have HZ0 : Hid ((v3.alloc (.cells #[.int .i64 x.kind, .int .i64 x.job, .int .i64 x.task, .int .i64 x.worker, .int .i64 x.sched, .int .i64 x.epoch, .slice A3 n3 c3] 24)).heap[v3.heap.size]? = some (.cells #[.int .i64 x.kind, .int .i64 x.job, .int .i64 x.task, .int .i64 x.worker, .int .i64 x.sched, .int .i64 x.epoch, .slice A3 n3 c3] 24 (0, 0))) := heap_at rfl
      have HK3 := hid (show Kd.str.slice.K (v3.alloc (.cells #[.int .i64 x.kind, .int .i64 x.job, .int .i64 x.task, .int .i64 x.worker, .int .i64 x.sched, .int .i64 x.epoch, .slice A3 n3 c3] 24)) Any x.needs [.slice A3 n3 c3] from Kd.any (Kd.below hk3 (bAlloc (Below.refl _ _) _)))
      clear hk3 hb3 HO2
      obtain ⟨x0, x1, x2, x3, x4, x5, x6⟩ := rec_cells ((Z3.out.block _ hzx).trans HX0.out)
      go_wp2_with fail
      refine (CB.out _ (bThen b0.out Z3.out)).mono ?_
      rintro e v4 ⟨A4, m4, c4, rfl, hO4, hb4⟩
      have HO4 := hid hO4
      have Z4 := hid (bThen Z3.out hb4)
      have B4 := hid hb4
      clear hb4 hO4 x0 x1 x2 x3 x4 x5 x6
      go_wp2_with (at_builtin; go_must (refine append_arm Kd.u8 (w0 := v4) (W := v4) (v3.alloc (.cells #[.int .i64 x.kind, .int .i64 x.job, .int .i64 x.task, .int .i64 x.worker, .int .i64 x.sched, .int .i64 x.epoch, .slice A3 n3 c3] 24)).heap.size rfl _ _ 27 5 _ 1 rfl Try.underlying27 Try.infoU8 rfl (by decide) (by decide) (.slice A4 m4 c4) (recL x) (0 : UInt8) [.int .u8 0] NoT NoT rfl rfl rfl (fun _ h => h.elim) HO4.out (Below.refl _ _) B4.out.size (by have := HRL.out; omega) ?_))
      intro u5 v5 hO5 hb5 _ _
      obtain ⟨A5, m5, c5, rfl, hq1, hq2⟩ := hO5.shape'
      clear hq1 hq2
      have HO5 := hid hO5
      have B5 := hid (B4.out.trans (show Below (v3.alloc (.cells #[.int .i64 x.kind, .int .i64 x.job, .int .i64 x.task, .int .i64 x.worker, .int .i64 x.sched, .int .i64 x.epoch, .slice A3 n3 c3] 24)).heap.size v4 v5 by simpa using hb5))
      have Z5 := hid (Z3.out.trans (B5.out.mono Z3.out.size))
      clear hO5 hb5 HO4 B4
      go_wp2_with fail
      refine (C5.out HOK.out _ _ (Kd.any (Own.K HO5.out))).mono ?_
      rintro e v6 ⟨A6, n6, c6, rfl, hb6⟩
      have B6 := hid (bAlloc (bThen B5.out hb6) (.cells #[.int .i64 0, .int .i64 0, .int .i64 0, .int .i64 0, .int .i64 0, .int .i64 0, .slice A6 n6 c6] 24))
      have Z6 := hid (Z3.out.trans (B6.out.mono Z3.out.size))
      clear hb6 HO5
      obtain ⟨x0, x1, x2, x3, x4, x5, x6⟩ := rec_cells ((Z6.out.block _ hzx).trans HX0.out)
      obtain ⟨y0, y1, y2, y3, y4, y5, y6⟩ := rec_cells ((B6.out.block _ (by simp)).trans HZ0.out)
      go_wp2_with fail
      refine (rsame17_calls x x A3 A n3 c3 n c _ (Kd.below HK3.out B6.out) (Kd.below HN.out (bThen b0.out Z6.out))).mono ?_
      rintro e v7 ⟨rfl, hb7⟩
      rw [show decide (x = x) = true from decide_eq_true rfl]
      have Z7 := hid (bThen Z6.out hb7)
      clear hb7 x0 x1 x2 x3 x4 x5 x6 y0 y1 y2 y3 y4 y5 y6
      go_wp2_with fail
      refine (works17_calls _).mono ?_
      rintro e v8 ⟨rfl, hb8⟩
      go_wp2
      go_ret
      exact ⟨rfl, bThen b0.out (bThen Z7.out hb8)⟩

theorem recBack_walk (W : World) (x : RecS) (cs : Array Value) (hx : Kd.recK.K W Any x cs.toList) (_ox : okRec x) (b : List UInt8) (u : Value) (hb : Kd.u8.slice.K W Any b [u]) (_ob : (∀ y ∈ b, True) ∧ b.length * 1 ≤ 140737488351232) :
    Calls Try.prog 5 #[.agg cs, u] W fun e w' => e = .returned (.bool true) ∧ Below W.heap.size W w' := by
  obtain ⟨A, n, c, rfl, h1⟩ := rec_open hx
  have h2 := hb
  obtain ⟨B, d, he, _, _, _⟩ := h2
  obtain rfl : u = .slice B b.length d := by simpa using he
  exact recBackLaw_calls x A n c b B d W h1 hb
end Go.Proofs.Ytahhhnbpohcbfaa
